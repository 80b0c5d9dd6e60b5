import Derived.WalkKit
import Derived.LoopN
import Derived.ChangeMaps5
import Derived.Laws.CopyOwn
import Derived.Lib.Hide
import Derived.Lib.Bytealg
import Derived.Lib.SlTrimSet
import Derived.Lib.Overlaps
import Derived.Lib.AppendZeros
import Derived.Maps.OwnOps
import Derived.IntWalk
import Derived.Test.YtjhogocabcdjbabGreatDoorShelf
set_option linter.unusedSimpArgs false
set_option linter.unusedVariables false
set_option maxRecDepth 100000
set_option maxHeartbeats 8000000
theorem ak{α:Type}{l:List α}{i:Nat}(h:i<l.length):l[i]? =some l[i]:=List.getElem?_eq_getElem h
theorem au{α:Type}{l:List α}{i:Nat}{d:α}:l.getD i d=(l[i]?).getD d:=List.getD_eq_getElem?_getD
theorem aw{α:Type}{l:List α}{i:Nat}{a:α}:l[i]? =some a↔∃h:i<l.length,l[i]=a:=List.getElem?_eq_some_iff
theorem ax{α:Type}{l:List α}{i:Nat}{a:α}(h:l[i]? =some a):a∈l:=List.mem_of_getElem? h
theorem az{α:Type}(a b:α):(some a=some b)=(a=b):=Option.some.injEq _ _
theorem aB{α β:Type}{b:β}{f:α→β}{l:List α}:b∈l.map f↔∃a,a∈l∧f a=b:=List.mem_map
theorem aD{α:Type}{l:List α}{i:Nat}{a b:α}(h:a∈l.set i b):a∈l∨a=b:=List.mem_or_eq_of_mem_set h
theorem aE(n:Nat):(n:Int).toNat=n:=Int.toNat_natCast _
theorem aF{α:Type}{p:α→Bool}{l:List α}{x:α}:x∈l.filter p↔x∈l∧p x=true:=List.mem_filter
theorem aG{α β:Type}{f:α→β}{l:List α}{i:Nat}:(l.map f)[i]? =(l[i]?).map f:=List.getElem?_map
theorem aH(n:Nat):0≤n:=Nat.zero_le _
theorem aJ{α β:Type}{f:α→β}{a:α}{l:List α}:(a::l).map f=f a::l.map f:=List.map_cons
theorem aK{α:Type}{b:α}{l:List α}{a:α}:a∈b::l↔a=b∨a∈l:=List.mem_cons
theorem aL{α:Type}{p:α→Bool}{l:List α}:l.all p=true↔∀x,x∈l→p x=true:=List.all_eq_true
theorem aO{α:Type}{a:α}{s t:List α}:a∈s++t↔a∈s∨a∈t:=List.mem_append
theorem aP(n:Nat):n≤n:=Nat.le_refl _
theorem aR{α:Type}(a b c:List α):a++b++c=a++(b++c):=List.append_assoc _ _ _
theorem aV{a b:ByteArray}:(a++b).size=a.size+b.size:=ByteArray.size_append
theorem aW{α:Type}{a b:List α}:(a++b).length=a.length+b.length:=List.length_append
theorem aX{α β:Type}{l:List α}(f:α→β):(l.map f).length=l.length:=List.length_map _
theorem aZ{α β:Type}{f:α→β}{a b:List α}:(a++b).map f=a.map f++b.map f:=List.map_append
theorem bf{α:Type}{i:Nat}{l:List α}:(l.drop i).length=l.length-i:=List.length_drop
theorem bj{α β:Type}{x:α}{l:List α}{f:α→List β}:(x::l).flatMap f=f x++l.flatMap f:=List.flatMap_cons
theorem bm(a b:Bool):((a&&b)=true)=(a=true∧b=true):=Bool.and_eq_true _ _
theorem bp{α:Type}{a b:List α}{i:Nat}(h:a.length≤i):(a++b)[i]? =b[i-a.length]?:=List.getElem?_append_right h
theorem bu{α:Type}{i:Nat}{l:List α}:(l.take i).length=min i l.length:=List.length_take
theorem bz{α:Type}{a:α}{s t:List α}:a::s++t=a::(s++t):=List.cons_append
theorem bJ{α:Type}{p:α→Bool}{l:List α}:l.filter p=l↔∀a∈l,p a=true:=List.filter_eq_self
theorem bL{α:Type}{a:α}{l:List α}:(a::l).Nodup↔¬a∈l∧l.Nodup:=List.nodup_cons
theorem bY{α:Type}{p:α→Bool}(a b:List α):(a++b).filter p=a.filter p++b.filter p:=List.filter_append _ _
theorem cc{α:Type}{l:List α}{i:Nat}(h:l.length≤i):l[i]? =none:=List.getElem?_eq_none h
theorem cE{m n:Nat}:m∈List.range n↔m<n:=List.mem_range
theorem c_{α:Type}{x:α}{l:List α}{p:α→Bool}:(x::l).filter p=if p x=true then x::l.filter p else l.filter p:=List.filter_cons
theorem dm{α:Type}{p q:α→Bool}{l:List α}:(l.filter q).filter p=l.filter fun a=>p a&&q a:=List.filter_filter
theorem ae{p:Prop}(h:p:=by omega):p:=h
theorem ah{p:Prop}(h:p:=by decide):p:=h
theorem ai{p:Prop}(h:p:=by simp):p:=h
abbrev aj:=ByteArray
section
variable {p q:Prop}
structure ZH (q:Prop):Prop where
 t:q
theorem Y0(h:p:=by(try simp only[pY,List.drop_succ_cons,List.drop_zero,List.drop_nil,bz,List.nil_append,List.length_cons,List.length_nil,Nat.zero_add,Nat.reduceAdd]);(try exact rfl)):p:=h
theorem Y1(h:p:=by with_reducible repeat(first|exact iA.refl|refine iA.cons (by with_reducible repeat(first|exact bB.head|apply bB.tail)) ?_|apply iA.drop)):p:=h
theorem Y2(h:p:=by with_reducible repeat(first|exact iA.refl|refine iA.cons (by with_reducible repeat(first|exact bB.head|apply bB.tail)) ?_)):p:=h
theorem Y3(h:p:=by with_reducible repeat(first|exact iA.nil|refine iA.cons (by with_reducible repeat(first|exact bB.head|apply bB.tail)) ?_)):p:=h
theorem Y4(h:p:=by repeat(first|exact iA.refl|refine iA.cons (by repeat(first|exact bB.head|apply bB.tail)) ?_|apply iA.drop)):p:=h
theorem Y5(h:p:=by simp only[decide_eq_true_eq,decide_eq_false_iff_not,Bool.not_eq_true,Bool.not_true,Bool.not_false,ne_eq];omega):p:=h
theorem Y6(h:p:=by with_reducible repeat(first|exact iA.nil|refine iA.cons (by with_reducible repeat(exact bB.head)) ?_)):p:=h
theorem Y7(h:p:=by repeat(first|exact iA.refl|refine iA.cons (by repeat(first|exact bB.head|apply bB.tail)) ?_)):p:=h
theorem Y8(h:p:=by repeat(first|exact iA.nil|refine iA.cons (by repeat(first|exact bB.head|apply bB.tail)) ?_)):p:=h
theorem Y9(h:p:=by(try simp only[List.drop_zero,List.drop_succ_cons,List.take_succ_cons,List.take_zero]);(try exact rfl)):p:=h
theorem Y10(h:p:=by rw[hv,qb,show Nat.min 1 (n+1-k)=1 from Nat.min_eq_left ae,Nat.one_mul]):p:=h
theorem aQ(h:p:=by with_reducible (repeat(first|exact bB.head|apply bB.tail))):p:=h
theorem mN(h:p:=by with_reducible repeat(first|exact ud.refl|apply ud.drop)):p:=h
theorem Y13(h:p:=by rw[eq_comm,decide_eq_false_iff_not];rintro rfl;exact h rfl):p:=h
theorem Y14(h:p:=by rw[List.getElem?_drop,ak ae]):p:=h
theorem Y15(h:p:=by have :=(aw.1 hu).1;omega):p:=h
theorem Y16(h:p:=by simp only[aV,z6,z7];omega):p:=h
theorem Y17(h:p:=by intro w;simp[sizeOf3,sizeOf120]):p:=h
theorem Y18(h:p:=by intro w;simp[sizeOf3,sizeOf44]):p:=h
theorem Y19(h:p:=by intro w;simp[sizeOf3,sizeOf9]):p:=h
theorem br(h:p:=by with_reducible (repeat(exact bB.head))):p:=h
theorem xI(h:p:=by(simp only[Addr.add_lit];(simp;done))):p:=h
theorem Y22(h:p:=by simp only[aV];omega):p:=h
theorem Nv(h:p:=by with_reducible repeat(exact iA.refl)):p:=h
theorem Uh(h:p:=by simp only[Addr.add_lit];(simp;done)):p:=h
theorem Y25(h:p:=by rw[ak hj,S4]):p:=h
theorem Y26(h:p:=by rw[hd];simp[Program.intKind,hd]):p:=h
theorem Y27(h:p:=by rw[Ln (by exact h3)];omega):p:=h
theorem Y28(h:p:=by intro w;simp[sizeOf169]):p:=h
theorem Y29(h:p:=by rw[bu];omega):p:=h
theorem Zs(h:p:=by rw[aX];omega):p:=h
theorem Y31(h:p:=by rw[Cy e0];exact h1):p:=h
theorem Y32(h:p:=by as_aux_lemma=>kernel_rfl):p:=h
theorem Y33(h:p:=by simp[kL,h2,h3,h4]):p:=h
theorem ft(h:p:=by repeat(exact iA.refl)):p:=h
theorem yY(h:p:=by rw[Addr.add_lit];simp):p:=h
theorem Y36(h:p:=by rw[hB.ay];exact hu):p:=h
theorem Y37(h:p:=by rw[Ln h3];omega):p:=h
theorem Rp(h:p:=by rw[r8 hV];omega):p:=h
theorem Y39(h:p:=by rw[<-YZ];exact hint):p:=h
theorem Y40(h:p:=by rw[hV.un];exact S3):p:=h
theorem Y41(h:p:=by rw[hV.us];exact S3):p:=h
theorem Y42(h:p:=by rw[hA.tl];exact xy):p:=h
theorem Vi(h:p:=by unfold maxLen;omega):p:=h
theorem Y44(h:p:=by exact sizeOf243):p:=h
theorem Y45(h:p:=by exact sizeOf120):p:=h
theorem Y46(h:p:=by exact sizeOf271):p:=h
theorem Y47(h:p:=by exact sizeOf169):p:=h
theorem Y48(h:p:=by rw[hV.ds];exact hj):p:=h
theorem Y49(h:p:=by rw[hV.db];exact hj):p:=h
theorem yX(h:p:=by exact sizeOf44):p:=h
theorem Y51(h:p:=by exact sizeOf86):p:=h
theorem Y52(h:p:=by exact sizeOf75):p:=h
theorem Y53(h:p:=by exact sizeOf23):p:=h
theorem Y54(h:p:=by exact sizeOf49):p:=h
theorem Y55(h:p:=by exact sizeOf31):p:=h
theorem uc(h:p:=by exact sizeOf3):p:=h
theorem Zr(h:p:=by exact sizeOf4):p:=h
theorem fZ(h:p:=by dsimp only;omega):p:=h
theorem Vh(h:p:=by simp[bD, *]):p:=h
theorem Yr(h:p:=by rw[hlen];omega):p:=h
theorem Zq(h:p:=by rw[vy];decide):p:=h
theorem Zp(h:p:=by rw[h2];decide):p:=h
theorem QJ(h:p:=by rw[<-kF];rfl):p:=h
theorem Yq(h:p:=by simpa using h3):p:=h
theorem Vg(h:p:=by simpa using h2):p:=h
theorem Zo(h:p:=by simpa using h0):p:=h
theorem Yp(h:p:=by simpa using h1):p:=h
theorem Vf(h:p:=by rw[SK];rfl):p:=h
theorem Y69(h:p:=by simp_all;done):p:=h
theorem Y70(h:p:=by simpa using hW):p:=h
theorem Ro(h:p:=by rw[hl];simp):p:=h
theorem Ic(h:p:=by simpa using h):p:=h
theorem Kf(h:p:=by(simp;omega)):p:=h
theorem Zn(h:p:=by rw[hk];simp):p:=h
theorem Yo(h:p:=by rw[hh,iu]):p:=h
theorem Y76(h:p:=by(simp;done)):p:=h
theorem ez(h:p:=by simp;omega):p:=h
theorem bC(h:p:=by kernel_rfl):p:=h
theorem sE(h:p:=by assumption):p:=h
theorem Y80(h:p:=by simp;done):p:=h
theorem vP(h:p:=by simp[hx]):p:=h
theorem aN(h:p:=by exact rfl):p:=h
theorem Bt(h:p:=by simp[h1]):p:=h
theorem Ug(h:p:=by simp[h2]):p:=h
theorem Ve(h:p:=by simp[h]):p:=h
theorem Z0(a:q)(h:ZH q->p:=by intro zq;refine KO.nil ?_;(repeat(first|(with_reducible refine K.seq ?_)|(with_reducible refine KQ.next ?_)));exact zq.1):p:=h ⟨a⟩
theorem Z1(a:q)(h:ZH q->p:=by intro zq;refine KO.mv rfl rfl ?_;exact zq.1):p:=h ⟨a⟩
theorem Z2(a:q)(h:ZH q->p:=by intro zq;(repeat((with_reducible refine K.seq ?_)));refine K.Ih ?_;exact zq.1):p:=h ⟨a⟩
theorem Z3(a:q)(h:ZH q->p:=by intro zq;refine KO.nil ?_;(repeat((with_reducible refine KQ.next ?_)));exact zq.1):p:=h ⟨a⟩
theorem Z4(a:q)(h:ZH q->p:=by intro zq;refine KO.nil ?_;(repeat(first|(with_reducible refine KQ.next ?_)|(with_reducible refine KQ.nf ?_)|(with_reducible refine K.ret ?_)));exact zq.1):p:=h ⟨a⟩
theorem Z5(a:q)(h:ZH q->p:=by intro zq;refine KO.nil ?_;(repeat(first|(with_reducible refine KQ.next ?_)|(with_reducible refine K.ret ?_)));exact zq.1):p:=h ⟨a⟩
theorem Z6(a:q)(h:ZH q->p:=by intro zq;(repeat(first|(with_reducible refine K.seq ?_)|(with_reducible refine KQ.next ?_)|(with_reducible refine K.skip ?_)));exact zq.1):p:=h ⟨a⟩
theorem Z8(a:q)(h:ZH q->p:=by intro zq;refine KO.as rfl rfl ?_;exact zq.1):p:=h ⟨a⟩
theorem Z9(a:q)(h:ZH q->p:=by intro zq;(repeat(first|(with_reducible refine K.seq ?_)|(with_reducible refine KQ.next ?_)|(with_reducible refine KQ.iE ?_)|(with_reducible refine KQ.kj ?_)|(with_reducible refine K.exit ?_)));exact zq.1):p:=h ⟨a⟩
theorem si(a:q)(h:ZH q->p:=by intro zq;(repeat(first|(with_reducible refine K.seq ?_)|(with_reducible refine KQ.next ?_)|(with_reducible refine K.skip ?_)|(with_reducible refine K.block ?_)));refine K.Ih ?_;exact zq.1):p:=h ⟨a⟩
theorem cW(a:q)(h:ZH q->p:=by intro zq;refine K.Ih ?_;refine Z1 ?_;exact zq.1):p:=h ⟨a⟩
theorem Kb(a:q)(h:ZH q->p:=by intro zq;refine KO.no rfl rfl rfl rfl ?_;refine KO.no rfl rfl rfl rfl ?_;exact zq.1):p:=h ⟨a⟩
theorem QG(a:q)(h:ZH q->p:=by intro zq;refine KO.nil ?_;(repeat(first|(with_reducible refine KQ.next ?_)|(with_reducible refine K.block ?_)));exact zq.1):p:=h ⟨a⟩
theorem qW(a:q)(h:ZH q->p:=by intro zq;refine Z1 ?_;refine KO.on rfl rfl rfl ?_;exact zq.1):p:=h ⟨a⟩
theorem Z15(a:q)(h:ZH q->p:=by intro zq;refine KO.nil ?_;(repeat(first|(with_reducible refine KQ.next ?_)|(with_reducible refine KQ.gy ?_)));exact zq.1):p:=h ⟨a⟩
theorem Z16(a:q)(h:ZH q->p:=by intro zq;refine KO.PS rfl aN rfl ?_;refine KO.PS rfl aN rfl ?_;exact zq.1):p:=h ⟨a⟩
theorem jL(a:q)(h:ZH q->p:=by intro zq;refine Z8 ?_;refine Z0 ?_;exact zq.1):p:=h ⟨a⟩
theorem Yg(a:q)(h:ZH q->p:=by intro zq;(repeat(first|(with_reducible refine KQ.next ?_)|(with_reducible refine KQ.gy ?_)|(with_reducible refine K.skip ?_)));exact zq.1):p:=h ⟨a⟩
theorem vO(a:q)(h:ZH q->p:=by intro zq;refine KO.add rfl rfl rfl ae rfl ?_;exact zq.1):p:=h ⟨a⟩
theorem Vd(a:q)(h:ZH q->p:=by intro zq;refine KO.no rfl rfl Y5 rfl ?_;refine KO.no rfl rfl Y5 rfl ?_;exact zq.1):p:=h ⟨a⟩
theorem sP(a:q)(h:ZH q->p:=by intro zq;refine KO.ld rfl rfl isAgg3 br aN rfl ?_;exact zq.1):p:=h ⟨a⟩
theorem iD(a:q)(h:ZH q->p:=by intro zq;refine KO.nc rfl rfl ?_;exact zq.1):p:=h ⟨a⟩
theorem yW(a:q)(h:ZH q->p:=by intro zq;refine Z1 ?_;refine KO.on rfl rfl Y5 ?_;exact zq.1):p:=h ⟨a⟩
theorem Nj(a:q)(h:ZH q->p:=by intro zq;refine KO.fG (off:=0) rfl runUnderlying44 rfl rfl sizeOf3 rfl ?_;exact zq.1):p:=h ⟨a⟩
theorem Z25(a:q)(h:ZH q->p:=by intro zq;refine KO.fG (off:=2) rfl runUnderlying79 rfl rfl sizeOf3 rfl ?_;refine KO.bO (b:=b5) (cs:=qF x (.slice a x.list.length cap)) (i:=2) rfl rfl isAgg3 br (by rfl) rfl rfl ?_;exact zq.1):p:=h ⟨a⟩
theorem tW(a:q)(h:ZH q->p:=by intro zq;refine KO.lB rfl rfl rfl rfl ?_;exact zq.1):p:=h ⟨a⟩
theorem jo(a:q)(h:ZH q->p:=by intro zq;refine jL ?_;refine cW ?_;exact zq.1):p:=h ⟨a⟩
theorem kq(a:q)(h:ZH q->p:=by intro zq;refine Z8 ?_;refine Z5 ?_;exact zq.1):p:=h ⟨a⟩
theorem um(a:q)(h:ZH q->p:=by intro zq;refine KO.lss rfl rfl rfl ?_;exact zq.1):p:=h ⟨a⟩
theorem lX(a:q)(h:ZH q->p:=by intro zq;refine KO.on rfl rfl rfl ?_;exact zq.1):p:=h ⟨a⟩
theorem XW(a:q)(h:ZH q->p:=by intro zq;refine iD ?_;refine KO.fG (off:=0) rfl runUnderlying171 rfl rfl sizeOf169 rfl ?_;exact zq.1):p:=h ⟨a⟩
theorem Rn(a:q)(h:ZH q->p:=by intro zq;refine KO.fG (off:=4) rfl runUnderlying79 rfl rfl sizeOf75 rfl ?_;refine KO.fo (off:=0) rfl runUnderlying75 rfl rfl sizeOf9 rfl ?_;exact zq.1):p:=h ⟨a⟩
theorem Vc(a:q)(h:ZH q->p:=by intro zq;refine KO.nil ?_;(repeat(first|(with_reducible refine K.seq ?_)|(with_reducible refine KQ.next ?_)|(with_reducible refine K.block ?_)));exact zq.1):p:=h ⟨a⟩
theorem XO(a:q)(h:ZH q->p:=by intro zq;refine KO.fG (off:=7) rfl runUnderlying133 rfl rfl sizeOf123 rfl ?_;refine KO.bO (i:=7) rfl rfl isAgg123 br rfl rfl rfl ?_;exact zq.1):p:=h ⟨a⟩
theorem XN(a:q)(h:ZH q->p:=by intro zq;refine iD ?_;refine KO.fG (off:=0) rfl runUnderlying122 rfl rfl sizeOf120 rfl ?_;exact zq.1):p:=h ⟨a⟩
theorem Z36(a:q)(h:ZH q->p:=by intro zq;refine KO.AR (pl:=[(0,1),(1,1),(2,1),(3,1),(4,1)]) rfl zeroValue44 runUnderlying44 Y19 aN rfl ?_;exact zq.1):p:=h ⟨a⟩
theorem Qi(a:q)(h:ZH q->p:=by intro zq;(repeat(first|(with_reducible refine KQ.next ?_)|(with_reducible refine KQ.iE ?_)|(with_reducible refine KQ.kj ?_)|(with_reducible refine K.exit ?_)));exact zq.1):p:=h ⟨a⟩
theorem kO(a:q)(h:ZH q->p:=by intro zq;(repeat((with_reducible refine K.seq ?_)));exact zq.1):p:=h ⟨a⟩
theorem gZ(a:q)(h:ZH q->p:=by intro zq;refine Z1 ?_;refine Z1 ?_;exact zq.1):p:=h ⟨a⟩
theorem AZ(a:q)(h:ZH q->p:=by intro zq;refine Z8 ?_;refine Z4 ?_;exact zq.1):p:=h ⟨a⟩
theorem EG(a:q)(h:ZH q->p:=by intro zq;refine KO.ld rfl rfl isAgg9 br aN rfl ?_;exact zq.1):p:=h ⟨a⟩
theorem XB(a:q)(h:ZH q->p:=by intro zq;refine Kb ?_;refine KO.no rfl rfl rfl rfl ?_;exact zq.1):p:=h ⟨a⟩
theorem gY(a:q)(h:ZH q->p:=by intro zq;refine cW ?_;refine Z1 ?_;exact zq.1):p:=h ⟨a⟩
theorem Qg(a:q)(h:ZH q->p:=by intro zq;refine KR.Ih bC (fun a w h=>by exact mU a w h) ?_;exact zq.1):p:=h ⟨a⟩
theorem sh(a:q)(h:ZH q->p:=by intro zq;refine KO.on rfl rfl Y5 ?_;exact zq.1):p:=h ⟨a⟩
theorem Iv(a:q)(h:ZH q->p:=by intro zq;refine KO.jd (i:=j) rfl rfl runUnderlying95 sizeOf3 rfl ae rfl ?_;exact zq.1):p:=h ⟨a⟩
theorem Zm(a:q)(h:ZH q->p:=by intro zq;refine KO.nil ?_;(repeat(first|(with_reducible refine KR.seq ?_)|(with_reducible refine KQ.u5 ?_)));exact zq.1):p:=h ⟨a⟩
theorem Vb(a:q)(h:ZH q->p:=by intro zq;refine KO.fG (off:=3) rfl runUnderlying79 rfl rfl sizeOf3 rfl ?_;refine KO.bO (b:=b5) (cs:=qF x (.slice a x.list.length cap)) (i:=3) rfl rfl isAgg3 br (by rfl) rfl rfl ?_;exact zq.1):p:=h ⟨a⟩
theorem sx(a:q)(h:ZH q->p:=by intro zq;refine KO.oW rfl Y5 rfl rfl ?_;exact zq.1):p:=h ⟨a⟩
theorem pC(a:q)(h:ZH q->p:=by intro zq;refine KO.not rfl rfl ?_;exact zq.1):p:=h ⟨a⟩
theorem Va(a:q)(h:ZH q->p:=by intro zq;refine Z1 ?_;refine KO.nil ?_;exact zq.1):p:=h ⟨a⟩
theorem Qf(a:q)(h:ZH q->p:=by intro zq;refine KO.fG (off:=1) rfl runUnderlying44 rfl rfl sizeOf3 rfl ?_;exact zq.1):p:=h ⟨a⟩
theorem Zl(a:q)(h:ZH q->p:=by intro zq;refine KO.jd (i:=j) rfl rfl runUnderlying94 sizeOf23 rfl ae rfl ?_;exact zq.1):p:=h ⟨a⟩
theorem uk(a:q)(h:ZH q->p:=by intro zq;refine KO.oW rfl rfl rfl rfl ?_;exact zq.1):p:=h ⟨a⟩
theorem Iu(a:q)(h:ZH q->p:=by intro zq;refine Z2 ?_;refine KO.mki rfl bC rfl ?_;exact zq.1):p:=h ⟨a⟩
theorem TJ(a:q)(h:ZH q->p:=by intro zq;(repeat(first|(with_reducible refine K.seq ?_)|(with_reducible refine KQ.next ?_)|(with_reducible refine KQ.gy ?_)|(with_reducible refine K.skip ?_)));exact zq.1):p:=h ⟨a⟩
theorem Z57(a:q)(h:ZH q->p:=by intro zq;refine iD ?_;refine KO.fG (off:=3) rfl runUnderlying133 rfl rfl sizeOf4 rfl ?_;exact zq.1):p:=h ⟨a⟩
theorem EF(a:q)(h:ZH q->p:=by intro zq;refine KO.eqI rfl rfl rfl ?_;exact zq.1):p:=h ⟨a⟩
theorem Br(a:q)(h:ZH q->p:=by intro zq;refine Z3 ?_;refine K.bW rfl rfl ?_;exact zq.1):p:=h ⟨a⟩
theorem TI(a:q)(h:ZH q->p:=by intro zq;refine KO.fG (off:=0) rfl runUnderlying75 rfl rfl sizeOf9 rfl ?_;exact zq.1):p:=h ⟨a⟩
theorem Zk(a:q)(h:ZH q->p:=by intro zq;refine K.draw [.pure,.read,.pure,.pure,.pure,.pure,.pure,.read,.pure,.read,.read,.pure,.pure] [0,1,2,3,4,5,6,7,8,9,10,11,12] bC bC ?_;refine KO.fG (off:=1) rfl runUnderlying75 rfl rfl sizeOf9 rfl ?_;exact zq.1):p:=h ⟨a⟩
theorem JM(a:q)(h:ZH q->p:=by intro zq;refine KO.fG (off:=3) rfl runUnderlying44 rfl rfl sizeOf9 rfl ?_;exact zq.1):p:=h ⟨a⟩
theorem TH(a:q)(h:ZH q->p:=by intro zq;refine KO.oQ rfl rfl rfl aN yX aN br aN ?_;exact zq.1):p:=h ⟨a⟩
theorem LB(a:q)(h:ZH q->p:=by intro zq;refine Z1 ?_;refine Z16 ?_;exact zq.1):p:=h ⟨a⟩
theorem TG(a:q)(h:ZH q->p:=by intro zq;refine K.Ih ?_;refine vO ?_;refine Va ?_;exact zq.1):p:=h ⟨a⟩
theorem qV(a:q)(h:ZH q->p:=by intro zq;refine Z8 ?_;refine Z3 ?_;exact zq.1):p:=h ⟨a⟩
theorem nX(a:q)(h:ZH q->p:=by intro zq;refine Z8 ?_;refine KO.nil ?_;(repeat(first|(with_reducible refine KQ.next ?_)|(with_reducible refine KQ.nf ?_)|(with_reducible refine KQ.yT ?_)|(with_reducible refine K.ret ?_)));exact zq.1):p:=h ⟨a⟩
theorem Xz(a:q)(h:ZH q->p:=by intro zq;refine KO.fG (off:=12) rfl runUnderlying133 rfl rfl sizeOf131 rfl ?_;refine KO.jd (i:=u.toNat) rfl rfl runUnderlying131 sizeOf130 UE ae rfl ?_;exact zq.1):p:=h ⟨a⟩
theorem Zj(a:q)(h:ZH q->p:=by intro zq;refine K.Ih ?_;refine KO.fG (off:=6) rfl runUnderlying243 rfl rfl sizeOf3 rfl ?_;exact zq.1):p:=h ⟨a⟩
theorem Z71(a:q)(h:ZH q->p:=by intro zq;refine K.draw [.read,.write,.pure,.pure,.pure,.read,.pure,.pure,.pure,.read,.pure,.pure,.pure,.pure,.read,.pure,.pure,.pure,.pure,.read,.pure,.pure] [0,1,2,3,4,5,6,7,8,9,10,11,12,13,14,15,16,17,18,19,20,21] bC bC ?_;refine KO.wB (cs:=dy x) rfl rfl isAgg44 sizeOf44 br aN rfl ?_;exact zq.1):p:=h ⟨a⟩
theorem BQ(a:q)(h:ZH q->p:=by intro zq;refine qW ?_;refine qW ?_;exact zq.1):p:=h ⟨a⟩
theorem Z73(a:q)(h:ZH q->p:=by intro zq;refine Z1 ?_;refine KO.on rfl rfl Y80 ?_;exact zq.1):p:=h ⟨a⟩
theorem Nb(a:q)(h:ZH q->p:=by intro zq;(repeat(first|(with_reducible refine KQ.next ?_)|(with_reducible refine K.skip ?_)));exact zq.1):p:=h ⟨a⟩
theorem Fb(a:q)(h:ZH q->p:=by intro zq;refine KO.lB rfl Y5 rfl rfl ?_;exact zq.1):p:=h ⟨a⟩
theorem Qe(a:q)(h:ZH q->p:=by intro zq;refine KO.wB rfl rfl isAgg44 sizeOf44 aQ aN rfl ?_;exact zq.1):p:=h ⟨a⟩
theorem m_(a:q)(h:ZH q->p:=by intro zq;refine Z2 ?_;refine Z1 ?_;exact zq.1):p:=h ⟨a⟩
theorem LA(a:q)(h:ZH q->p:=by intro zq;refine KO.fG (off:=1) rfl runUnderlying97 rfl rfl sizeOf88 rfl ?_;exact zq.1):p:=h ⟨a⟩
theorem U_(a:q)(h:ZH q->p:=by intro zq;(repeat(first|(with_reducible refine KQ.iE ?_)|(with_reducible refine KQ.kj ?_)|(with_reducible refine K.exit ?_)));exact zq.1):p:=h ⟨a⟩
theorem Lz(a:q)(h:ZH q->p:=by intro zq;refine K.ct rfl rfl ?_;refine Z6 ?_;exact zq.1):p:=h ⟨a⟩
theorem qG(a:q)(h:ZH q->p:=by intro zq;refine KO.geq rfl rfl rfl ?_;exact zq.1):p:=h ⟨a⟩
theorem Z82(a:q)(h:ZH q->p:=by intro zq;refine iD ?_;refine KO.fG (off:=14) rfl runUnderlying97 rfl rfl sizeOf94 rfl ?_;exact zq.1):p:=h ⟨a⟩
theorem Zi(a:q)(h:ZH q->p:=by intro zq;refine iD ?_;refine KO.fG (off:=2) rfl runUnderlying133 rfl rfl sizeOf3 rfl ?_;exact zq.1):p:=h ⟨a⟩
theorem lW(a:q)(h:ZH q->p:=by intro zq;refine Z2 ?_;refine um ?_;refine Z0 ?_;exact zq.1):p:=h ⟨a⟩
theorem Qd(a:q)(h:ZH q->p:=by intro zq;refine iD ?_;refine KO.fo (off:=0) rfl runUnderlying88 rfl rfl sizeOf86 rfl ?_;exact zq.1):p:=h ⟨a⟩
theorem Z87(a:q)(h:ZH q->p:=by intro zq;refine KO.gO (i:=0) rfl rfl runUnderlying23 sizeOf3 rfl ai rfl ?_;refine KO.j7 (i:=0) (sz:=1) (cf:=kB) (e:=(j:Int)) rfl rfl isAgg3 aQ (fun _=>rfl) rfl aN aN rfl ?_;exact zq.1):p:=h ⟨a⟩
theorem Xy(a:q)(h:ZH q->p:=by intro zq;refine KO.fG (off:=27) rfl runUnderlying97 rfl rfl sizeOf4 rfl ?_;refine KO.bO (i:=27) rfl rfl isAgg4 br rfl P4 rfl ?_;exact zq.1):p:=h ⟨a⟩
theorem Xx(a:q)(h:ZH q->p:=by intro zq;refine KO.fG (off:=2) rfl runUnderlying97 rfl rfl sizeOf89 rfl ?_;exact zq.1):p:=h ⟨a⟩
theorem NO(a:q)(h:ZH q->p:=by intro zq;refine KO.fG (off:=4) rfl runUnderlying44 rfl rfl sizeOf3 rfl ?_;exact zq.1):p:=h ⟨a⟩
theorem Z91(a:q)(h:ZH q->p:=by intro zq;refine KO.gO (i:=1) rfl rfl runUnderlying115 sizeOf9 rfl ai rfl ?_;refine KO.j7 (i:=1) (sz:=1) (cf:=mf) (e:=wb) rfl rfl isAgg9 br (fun _=>rfl) rfl aN aN rfl ?_;exact zq.1):p:=h ⟨a⟩
theorem Qc(a:q)(h:ZH q->p:=by intro zq;refine LB ?_;refine Z8 ?_;exact zq.1):p:=h ⟨a⟩
theorem Zh(a:q)(h:ZH q->p:=by intro zq;(repeat(first|(with_reducible refine K.seq ?_)|(with_reducible refine KQ.next ?_)|(with_reducible refine K.skip ?_)|(with_reducible refine K.block ?_)));exact zq.1):p:=h ⟨a⟩
theorem Z94(a:q)(h:ZH q->p:=by intro zq;(repeat(first|(with_reducible refine KQ.u5 ?_)|(with_reducible refine KQ.nf ?_)|(with_reducible refine KQ.yT ?_)|(with_reducible refine KR.ret ?_)));refine KQ.conv (fun w hw=>hw.all (M:=Ol b4 b3 b2 v (dj 70 3) xs++N) Y4) ?_;exact zq.1):p:=h ⟨a⟩
theorem NN(a:q)(h:ZH q->p:=by intro zq;refine KO.ZV rfl rfl rfl ?_;refine KO.ZV rfl rfl rfl ?_;exact zq.1):p:=h ⟨a⟩
theorem TF(a:q)(h:ZH q->p:=by intro zq;refine KO.fG (off:=2) rfl runUnderlying79 rfl rfl sizeOf3 rfl ?_;exact zq.1):p:=h ⟨a⟩
theorem Xw(a:q)(h:ZH q->p:=by intro zq;refine KO.nil ?_;(repeat((with_reducible refine KQ.gy ?_)));exact zq.1):p:=h ⟨a⟩
theorem Is(a:q)(h:ZH q->p:=by intro zq;refine KO.len rfl underlying49 rfl ?_;exact zq.1):p:=h ⟨a⟩
theorem Na(a:q)(h:ZH q->p:=by intro zq;refine KO.neI rfl rfl rfl ?_;exact zq.1):p:=h ⟨a⟩
theorem xf(a:q)(h:ZH q->p:=by intro zq;refine K.Ih ?_;refine kq ?_;exact zq.1):p:=h ⟨a⟩
theorem Uf(a:q)(h:ZH q->p:=by intro zq;refine KO.fG (off:=6) rfl runUnderlying133 rfl rfl sizeOf125 rfl ?_;exact zq.1):p:=h ⟨a⟩
theorem ub(a:q)(h:ZH q->p:=by intro zq;refine KO.len rfl underlying23 rfl ?_;exact zq.1):p:=h ⟨a⟩
theorem EX(a:q)(h:ZH q->p:=by intro zq;refine iD ?_;refine KO.fG (off:=22) rfl runUnderlying133 rfl rfl sizeOf94 rfl ?_;exact zq.1):p:=h ⟨a⟩
theorem pG(a:q)(h:ZH q->p:=by intro zq;refine KO.ld rfl rfl isAgg9 aQ aN rfl ?_;exact zq.1):p:=h ⟨a⟩
theorem Ke(a:q)(h:ZH q->p:=by intro zq;refine KO.bO (b:=b5) (cs:=qF x (.slice a x.list.length cap)) (i:=2) rfl rfl isAgg3 aQ (by rfl) rfl rfl ?_;exact zq.1):p:=h ⟨a⟩
theorem g_(a:q)(h:ZH q->p:=by intro zq;refine cW ?_;refine iD ?_;exact zq.1):p:=h ⟨a⟩
theorem Ib(a:q)(h:ZH q->p:=by intro zq;refine KO.gO rfl rfl runUnderlying120 sizeOf243 aN ae rfl ?_;exact zq.1):p:=h ⟨a⟩
theorem Ia(a:q)(h:ZH q->p:=by intro zq;refine KO.oQ rfl rfl rfl aN Y54 aN aQ aN ?_;refine KO.oQ rfl rfl rfl aN Y55 aN aQ aN ?_;exact zq.1):p:=h ⟨a⟩
theorem Kc(a:q)(h:ZH q->p:=by intro zq;refine KO.leq rfl rfl rfl ?_;refine sx ?_;exact zq.1):p:=h ⟨a⟩
theorem iz(a:q)(h:ZH q->p:=by intro zq;refine Z2 ?_;refine Z8 ?_;exact zq.1):p:=h ⟨a⟩
theorem H_(a:q)(h:ZH q->p:=by intro zq;refine KO.aey rfl underlying9 rfl ?_;exact zq.1):p:=h ⟨a⟩
theorem sD(a:q)(h:ZH q->p:=by intro zq;refine KO.ld rfl rfl isAgg3 aQ aN rfl ?_;exact zq.1):p:=h ⟨a⟩
theorem Yn(a:q)(h:ZH q->p:=by intro zq;refine Z57 ?_;refine KO.bO (i:=3) rfl rfl isAgg4 br rfl rfl rfl ?_;exact zq.1):p:=h ⟨a⟩
theorem Cb(a:q)(h:ZH q->p:=by intro zq;refine KO.fG (off:=2) rfl runUnderlying44 rfl rfl sizeOf9 rfl ?_;exact zq.1):p:=h ⟨a⟩
theorem Ca(a:q)(h:ZH q->p:=by intro zq;refine KO.fG (off:=1) rfl runUnderlying75 rfl rfl sizeOf9 rfl ?_;exact zq.1):p:=h ⟨a⟩
theorem oL(a:q)(h:ZH q->p:=by intro zq;refine Z1 ?_;refine QG ?_;exact zq.1):p:=h ⟨a⟩
theorem pF(a:q)(h:ZH q->p:=by intro zq;refine Z1 ?_;refine Kb ?_;exact zq.1):p:=h ⟨a⟩
theorem QI(a:q)(h:ZH q->p:=by intro zq;refine iD ?_;refine KO.fG (off:=8) rfl runUnderlying133 rfl rfl sizeOf126 rfl ?_;exact zq.1):p:=h ⟨a⟩
theorem yl(a:q)(h:ZH q->p:=by intro zq;refine KO.wB rfl rfl isAgg44 sizeOf44 br aN rfl ?_;exact zq.1):p:=h ⟨a⟩
theorem pE(a:q)(h:ZH q->p:=by intro zq;refine Z15 ?_;refine TG ?_;exact zq.1):p:=h ⟨a⟩
theorem B_(a:q)(h:ZH q->p:=by intro zq;refine Z1 ?_;refine XB ?_;exact zq.1):p:=h ⟨a⟩
theorem B9(a:q)(h:ZH q->p:=by intro zq;refine Z1 ?_;refine Vd ?_;exact zq.1):p:=h ⟨a⟩
theorem lg(a:q)(h:ZH q->p:=by intro zq;refine Z2 ?_;refine jo ?_;exact zq.1):p:=h ⟨a⟩
theorem Ka(a:q)(h:ZH q->p:=by intro zq;refine KO.fG (off:=0) rfl runUnderlying97 rfl rfl sizeOf3 rfl ?_;exact zq.1):p:=h ⟨a⟩
theorem oK(a:q)(h:ZH q->p:=by intro zq;refine jL ?_;refine K.Ih ?_;exact zq.1):p:=h ⟨a⟩
theorem J_(a:q)(h:ZH q->p:=by intro zq;refine iD ?_;refine KO.fG (off:=30) rfl runUnderlying133 rfl rfl sizeOf95 rfl ?_;exact zq.1):p:=h ⟨a⟩
theorem kr(a:q)(h:ZH q->p:=by intro zq;refine Z2 ?_;refine AZ ?_;exact zq.1):p:=h ⟨a⟩
theorem QH(a:q)(h:ZH q->p:=by intro zq;refine Rn ?_;refine KO.bO (b:=b5) (cs:=qF x (.slice a x.list.length cap)) (i:=4) rfl rfl isAgg9 br (by rfl) rfl rfl ?_;exact zq.1):p:=h ⟨a⟩
theorem vK(a:q)(h:ZH q->p:=by intro zq;refine B_ ?_;refine tW ?_;exact zq.1):p:=h ⟨a⟩
theorem Nu(a:q)(h:ZH q->p:=by intro zq;refine iD ?_;refine KO.fG (off:=7) rfl runUnderlying97 rfl rfl sizeOf93 rfl ?_;exact zq.1):p:=h ⟨a⟩
theorem J9(a:q)(h:ZH q->p:=by intro zq;refine KO.oQ rfl rfl rfl aN yX aN aQ aN ?_;exact zq.1):p:=h ⟨a⟩
theorem Ue(a:q)(h:ZH q->p:=by intro zq;refine KO.fG (off:=3) rfl runUnderlying97 rfl rfl sizeOf91 rfl ?_;refine KO.jd (i:=j) rfl rfl runUnderlying91 sizeOf90 rfl ae rfl ?_;exact zq.1):p:=h ⟨a⟩
theorem H9(a:q)(h:ZH q->p:=by intro zq;refine KO.fG (off:=18) rfl runUnderlying97 rfl rfl sizeOf95 rfl ?_;exact zq.1):p:=h ⟨a⟩
theorem B8(a:q)(h:ZH q->p:=by intro zq;refine KO.no rfl rfl sE rfl ?_;refine KO.no rfl rfl sE rfl ?_;exact zq.1):p:=h ⟨a⟩
theorem B7(a:q)(h:ZH q->p:=by intro zq;refine KO.wB rfl rfl isAgg75 sizeOf75 br aN rfl ?_;exact zq.1):p:=h ⟨a⟩
theorem H8(a:q)(h:ZH q->p:=by intro zq;refine KO.fG (off:=7) rfl runUnderlying243 rfl rfl sizeOf3 rfl ?_;exact zq.1):p:=h ⟨a⟩
theorem H7(a:q)(h:ZH q->p:=by intro zq;refine KO.fG (off:=0) rfl runUnderlying133 rfl rfl sizeOf3 rfl ?_;exact zq.1):p:=h ⟨a⟩
theorem H6(a:q)(h:ZH q->p:=by intro zq;refine KO.fG (off:=4) rfl runUnderlying79 rfl rfl sizeOf75 rfl ?_;exact zq.1):p:=h ⟨a⟩
theorem H5(a:q)(h:ZH q->p:=by intro zq;refine KO.fG (off:=2) rfl runUnderlying75 rfl rfl sizeOf3 rfl ?_;exact zq.1):p:=h ⟨a⟩
theorem Ym(a:q)(h:ZH q->p:=by intro zq;(repeat(first|(with_reducible refine K.seq ?_)|(with_reducible refine KQ.next ?_)|(with_reducible refine KQ.iE ?_)|(with_reducible refine KQ.kj ?_)|(refine KQ.G9 rfl ?_)|(with_reducible refine K.exit ?_)));exact zq.1):p:=h ⟨a⟩
theorem sC(a:q)(h:ZH q->p:=by intro zq;refine yW ?_;refine yW ?_;exact zq.1):p:=h ⟨a⟩
theorem Yl(a:q)(h:ZH q->p:=by intro zq;refine KO.PS rfl aN rfl ?_;exact zq.1):p:=h ⟨a⟩
theorem Ud(a:q)(h:ZH q->p:=by intro zq;refine K.draw [.pure,.pure,.pure,.pure,.pure,.read,.pure,.pure,.pure,.pure,.write] [0,1,2,3,4,5,6,7,8,9,10] bC bC ?_;refine gZ ?_;exact zq.1):p:=h ⟨a⟩
theorem B6(a:q)(h:ZH q->p:=by intro zq;refine KO.Ze rfl rfl rfl ?_;exact zq.1):p:=h ⟨a⟩
theorem Nt(a:q)(h:ZH q->p:=by intro zq;refine KO.no rfl rfl Y5 rfl ?_;refine Fb ?_;exact zq.1):p:=h ⟨a⟩
theorem rM(a:q)(h:ZH q->p:=by intro zq;refine KO.cat rfl rfl ae rfl ?_;exact zq.1):p:=h ⟨a⟩
theorem QF(a:q)(h:ZH q->p:=by intro zq;refine Z1 ?_;refine KO.gO rfl rfl runUnderlying169 sizeOf271 aN ae rfl ?_;exact zq.1):p:=h ⟨a⟩
theorem rL(a:q)(h:ZH q->p:=by intro zq;refine Z8 ?_;refine KO.nil ?_;exact zq.1):p:=h ⟨a⟩
theorem EW(a:q)(h:ZH q->p:=by intro zq;refine XN ?_;refine KO.ld rfl rfl isAgg120 aQ aN rfl ?_;exact zq.1):p:=h ⟨a⟩
theorem oJ(a:q)(h:ZH q->p:=by intro zq;refine pC ?_;refine Z3 ?_;exact zq.1):p:=h ⟨a⟩
theorem xe(a:q)(h:ZH q->p:=by intro zq;refine Z8 ?_;refine AZ ?_;exact zq.1):p:=h ⟨a⟩
theorem HZ(a:q)(h:ZH q->p:=by intro zq;refine cW ?_;refine um ?_;exact zq.1):p:=h ⟨a⟩
theorem qQ(a:q)(h:ZH q->p:=by intro zq;refine Qc ?_;refine jo ?_;exact zq.1):p:=h ⟨a⟩
theorem J8(a:q)(h:ZH q->p:=by intro zq;refine KO.fG (off:=26) rfl runUnderlying97 rfl rfl sizeOf3 rfl ?_;exact zq.1):p:=h ⟨a⟩
theorem Yk(a:q)(h:ZH q->p:=by intro zq;refine KO.gO (i:=0) rfl rfl runUnderlying115 sizeOf9 rfl ai rfl ?_;refine KO.j7 (i:=0) (sz:=1) (cf:=mf) (e:=wa) rfl rfl isAgg9 br (fun _=>rfl) rfl aN aN rfl ?_;exact zq.1):p:=h ⟨a⟩
theorem Yj(a:q)(h:ZH q->p:=by intro zq;refine KO.neN rfl bC rfl ?_;refine Z3 ?_;exact zq.1):p:=h ⟨a⟩
theorem rK(a:q)(h:ZH q->p:=by intro zq;refine Z0 ?_;refine K.Ih ?_;exact zq.1):p:=h ⟨a⟩
theorem lY(a:q)(h:ZH q->p:=by intro zq;refine Yg ?_;refine TG ?_;exact zq.1):p:=h ⟨a⟩
theorem Yi(a:q)(h:ZH q->p:=by intro zq;refine KO.len rfl underlying115 rfl ?_;refine Na ?_;exact zq.1):p:=h ⟨a⟩
theorem Uc(a:q)(h:ZH q->p:=by intro zq;refine KO.P7 (pl:=[(0,5),(5,1),(6,1)]) (pU ⟨m,sY u,-1⟩) rfl zeroValue271 runUnderlying271 Y18 rfl rfl ?_;exact zq.1):p:=h ⟨a⟩
theorem Yh(a:q)(h:ZH q->p:=by intro zq;refine KR.bW rfl rfl ?_;(repeat(first|(with_reducible refine KR.seq ?_)|(with_reducible refine KQ.u5 ?_)|(with_reducible refine KR.skip ?_)|(with_reducible refine KR.block ?_)));exact zq.1):p:=h ⟨a⟩
theorem vJ(a:q)(h:ZH q->p:=by intro zq;refine pF ?_;refine Kb ?_;exact zq.1):p:=h ⟨a⟩
theorem lO(a:q)(h:ZH q->p:=by intro zq;refine Z2 ?_;refine gZ ?_;exact zq.1):p:=h ⟨a⟩
theorem Ns(a:q)(h:ZH q->p:=by intro zq;refine Zl ?_;refine KO.bO (i:=22+j) rfl rfl isAgg23 aQ yY c1 rfl ?_;exact zq.1):p:=h ⟨a⟩
theorem HY(a:q)(h:ZH q->p:=by intro zq;refine KO.nil ?_;(repeat((with_reducible refine KQ.u5 ?_)));exact zq.1):p:=h ⟨a⟩
theorem ua(a:q)(h:ZH q->p:=by intro zq;refine tW ?_;refine Z3 ?_;exact zq.1):p:=h ⟨a⟩
theorem nY(a:q)(h:ZH q->p:=by intro zq;refine K.Ih ?_;refine EF ?_;refine qV ?_;exact zq.1):p:=h ⟨a⟩
theorem J7(a:q)(h:ZH q->p:=by intro zq;refine sh ?_;refine sP ?_;refine sh ?_;exact zq.1):p:=h ⟨a⟩
theorem Nr(a:q)(h:ZH q->p:=by intro zq;refine KO.fG (off:=0) rfl runUnderlying243 rfl rfl sizeOf44 rfl ?_;exact zq.1):p:=h ⟨a⟩
theorem Nq(a:q)(h:ZH q->p:=by intro zq;refine KO.fG (off:=27) rfl runUnderlying97 rfl rfl sizeOf4 rfl ?_;exact zq.1):p:=h ⟨a⟩
theorem B5(a:q)(h:ZH q->p:=by intro zq;refine KO.oQ rfl rfl rfl aN Y52 aN br aN ?_;exact zq.1):p:=h ⟨a⟩
theorem mM(a:q)(h:ZH q->p:=by intro zq;refine EF ?_;refine Z3 ?_;exact zq.1):p:=h ⟨a⟩
theorem Np(a:q)(h:ZH q->p:=by intro zq;refine Zi ?_;refine KO.bO (i:=2) rfl rfl isAgg3 br rfl rfl rfl ?_;exact zq.1):p:=h ⟨a⟩
theorem Ub(a:q)(h:ZH q->p:=by intro zq;refine KO.bO (b:=b5) (cs:=qF x (.slice a x.list.length cap)) (i:=3) rfl rfl isAgg3 aQ (by rfl) rfl rfl ?_;exact zq.1):p:=h ⟨a⟩
theorem yj(a:q)(h:ZH q->p:=by intro zq;refine KO.len rfl underlying86 rfl ?_;exact zq.1):p:=h ⟨a⟩
theorem Yf(a:q)(h:ZH q->p:=by intro zq;refine KO.fG (off:=300) rfl runUnderlying28 rfl rfl sizeOf4 rfl ?_;refine KO.bO (i:=300) rfl rfl isAgg4 .head rfl (by rw[Tp h3,hcut]) rfl ?_;exact zq.1):p:=h ⟨a⟩
theorem nP(a:q)(h:ZH q->p:=by intro zq;refine Z8 ?_;refine kq ?_;exact zq.1):p:=h ⟨a⟩
theorem sB(a:q)(h:ZH q->p:=by intro zq;refine Z1 ?_;refine iD ?_;exact zq.1):p:=h ⟨a⟩
theorem HX(a:q)(h:ZH q->p:=by intro zq;(repeat((with_reducible refine KR.seq ?_)));refine Qg ?_;exact zq.1):p:=h ⟨a⟩
theorem J6(a:q)(h:ZH q->p:=by intro zq;refine XW ?_;refine KO.ld rfl rfl isAgg169 br aN rfl ?_;exact zq.1):p:=h ⟨a⟩
theorem acB(a:q)(h:ZH q->p:=by intro zq;refine K.conv (fun w hw=>cM (f:=mZ V.ps) Gh UD (hw.pick (A:=bI (mZ V.ps) V.us R.ay) aQ)) ?_;refine K.draw [.pure,.pure,.pure,.pure,.pure,.pure,.pure,.read,.read,.pure,.pure,.ef,.write,.pure,.pure,.pure,.write] [0,1,2,3,4,5,6,7,8,9,10,13,14,11,12,15,16] bC bC ?_;exact zq.1):p:=h ⟨a⟩
theorem J5(a:q)(h:ZH q->p:=by intro zq;refine pC ?_;refine BQ ?_;exact zq.1):p:=h ⟨a⟩
theorem Bb(a:q)(h:ZH q->p:=by intro zq;refine KO.len rfl underlying120 rfl ?_;exact zq.1):p:=h ⟨a⟩
theorem QE(a:q)(h:ZH q->p:=by intro zq;refine KO.My (i:=i) rfl rfl runUnderlying49 sizeOf44 rfl ae rfl ?_;exact zq.1):p:=h ⟨a⟩
theorem acA(a:q)(h:ZH q->p:=by intro zq;refine K.draw [.read,.pure,.pure,.pure,.read,.ef,.pure,.pure,.pure,.pure,.pure,.pure,.pure,.ef,.pure,.pure,.read,.read,.pure,.pure,.pure] [0,1,2,3,4,5,6,7,8,9,10,11,12,14,15,16,17,13,18,19,20] bC bC ?_;refine KO.ld (v:=bN bh) rfl rfl isAgg29 aQ aN rfl ?_;exact zq.1):p:=h ⟨a⟩
theorem Ye(a:q)(h:ZH q->p:=by intro zq;refine KO.gO rfl rfl runUnderlying49 sizeOf44 aN ae rfl ?_;refine KO.BE rfl rfl isAgg44 sizeOf44 aQ (fun _=>rfl) sE rfl ?_;exact zq.1):p:=h ⟨a⟩
theorem vI(a:q)(h:ZH q->p:=by intro zq;refine KO.on rfl rfl sE ?_;exact zq.1):p:=h ⟨a⟩
theorem B4(a:q)(h:ZH q->p:=by intro zq;refine KO.on rfl rfl Y80 ?_;exact zq.1):p:=h ⟨a⟩
theorem Yd(a:q)(h:ZH q->p:=by intro zq;refine KO.fG (off:=0) rfl runUnderlying28 rfl rfl sizeOf26 rfl ?_;refine KO.jd rfl rfl runUnderlying26 sizeOf9 rfl ae rfl ?_;exact zq.1):p:=h ⟨a⟩
theorem HW(a:q)(h:ZH q->p:=by intro zq;refine Nj ?_;refine sP ?_;exact zq.1):p:=h ⟨a⟩
theorem pD(a:q)(h:ZH q->p:=by intro zq;refine lX ?_;refine pC ?_;exact zq.1):p:=h ⟨a⟩
theorem Ua(a:q)(h:ZH q->p:=by intro zq;refine QI ?_;refine KO.jd (i:=j) rfl rfl runUnderlying126 sizeOf119 rfl ae rfl ?_;exact zq.1):p:=h ⟨a⟩
theorem Yc(a:q)(h:ZH q->p:=by intro zq;refine KO.gO rfl rfl runUnderlying23 sizeOf3 aN ae rfl ?_;refine KO.j7 rfl rfl isAgg3 aQ (fun _=>rfl) sE aN aN rfl ?_;exact zq.1):p:=h ⟨a⟩
theorem Yb(a:q)(h:ZH q->p:=by intro zq;refine KO.fo (off:=5) rfl runUnderlying271 rfl rfl sizeOf3 rfl ?_;refine KO.ldE rfl rfl isAgg3 aQ (fun _=>rfl) sE aN aN rfl ?_;exact zq.1):p:=h ⟨a⟩
theorem qP(a:q)(h:ZH q->p:=by intro zq;refine Z6 ?_;refine K.Ih ?_;exact zq.1):p:=h ⟨a⟩
theorem yi(a:q)(h:ZH q->p:=by intro zq;refine KO.aeu rfl bC rfl ?_;exact zq.1):p:=h ⟨a⟩
theorem qq(a:q)(h:ZH q->p:=by intro zq;refine Z8 ?_;refine pE ?_;exact zq.1):p:=h ⟨a⟩
theorem HV(a:q)(h:ZH q->p:=by intro zq;refine K.ct rfl ai ?_;exact zq.1):p:=h ⟨a⟩
theorem QD(a:q)(h:ZH q->p:=by intro zq;refine KO.fG (off:=26) rfl runUnderlying133 rfl rfl sizeOf95 rfl ?_;exact zq.1):p:=h ⟨a⟩
theorem QC(a:q)(h:ZH q->p:=by intro zq;refine KO.fG (off:=0) rfl runUnderlying271 rfl rfl sizeOf44 rfl ?_;exact zq.1):p:=h ⟨a⟩
theorem Qz(a:q)(h:ZH q->p:=by intro zq;refine KO.fG (off:=301) rfl runUnderlying28 rfl rfl sizeOf3 rfl ?_;exact zq.1):p:=h ⟨a⟩
theorem Ya(a:q)(h:ZH q->p:=by intro zq;refine KO.fG (off:=28) rfl runUnderlying97 rfl rfl sizeOf4 rfl ?_;refine KO.bO (i:=28) rfl rfl isAgg4 br rfl c28 rfl ?_;exact zq.1):p:=h ⟨a⟩
theorem Qy(a:q)(h:ZH q->p:=by intro zq;refine Xx ?_;refine KO.bO (i:=2) rfl rfl isAgg89 br rfl rfl rfl ?_;exact zq.1):p:=h ⟨a⟩
theorem B3(a:q)(h:ZH q->p:=by intro zq;(repeat((with_reducible refine K.skip ?_)));exact zq.1):p:=h ⟨a⟩
theorem Qx(a:q)(h:ZH q->p:=by intro zq;refine KO.fG (off:=5) rfl runUnderlying271 rfl rfl sizeOf3 rfl ?_;exact zq.1):p:=h ⟨a⟩
theorem Qw(a:q)(h:ZH q->p:=by intro zq;refine KO.fG (off:=29) rfl runUnderlying97 rfl rfl sizeOf3 rfl ?_;exact zq.1):p:=h ⟨a⟩
theorem Qv(a:q)(h:ZH q->p:=by intro zq;refine KO.fG (off:=5) rfl runUnderlying133 rfl rfl sizeOf3 rfl ?_;exact zq.1):p:=h ⟨a⟩
theorem Qt(a:q)(h:ZH q->p:=by intro zq;refine KO.fG (off:=8) rfl runUnderlying79 rfl rfl sizeOf49 rfl ?_;exact zq.1):p:=h ⟨a⟩
theorem Qs(a:q)(h:ZH q->p:=by intro zq;refine KO.fo (off:=7) rfl runUnderlying243 rfl rfl sizeOf3 rfl ?_;exact zq.1):p:=h ⟨a⟩
theorem qO(a:q)(h:ZH q->p:=by intro zq;refine Z0 ?_;refine xf ?_;exact zq.1):p:=h ⟨a⟩
theorem rJ(a:q)(h:ZH q->p:=by intro zq;refine Qc ?_;refine jL ?_;exact zq.1):p:=h ⟨a⟩
theorem No(a:q)(h:ZH q->p:=by intro zq;refine XW ?_;refine KO.ld rfl rfl isAgg169 aQ aN rfl ?_;exact zq.1):p:=h ⟨a⟩
theorem Qr(a:q)(h:ZH q->p:=by intro zq;refine KO.fG (off:=7) rfl runUnderlying79 rfl rfl sizeOf9 rfl ?_;exact zq.1):p:=h ⟨a⟩
theorem Qq(a:q)(h:ZH q->p:=by intro zq;refine KO.fG (off:=3) rfl runUnderlying79 rfl rfl sizeOf3 rfl ?_;exact zq.1):p:=h ⟨a⟩
theorem qp(a:q)(h:ZH q->p:=by intro zq;refine Z6 ?_;refine cW ?_;exact zq.1):p:=h ⟨a⟩
theorem qo(a:q)(h:ZH q->p:=by intro zq;refine um ?_;refine Z3 ?_;exact zq.1):p:=h ⟨a⟩
theorem X_(a:q)(h:ZH q->p:=by intro zq;refine TF ?_;refine KO.bO (b:=JK) (cs:=qF x (.slice la x.list.length lc)) (i:=2) rfl rfl isAgg3 br (by rfl) rfl rfl ?_;exact zq.1):p:=h ⟨a⟩
theorem T_(a:q)(h:ZH q->p:=by intro zq;refine si ?_;refine KO.gO rfl rfl runUnderlying115 sizeOf9 aN ae rfl ?_;exact zq.1):p:=h ⟨a⟩
theorem acz(a:q)(h:ZH q->p:=by intro zq;refine K.draw [.pure,.pure,.pure,.pure,.read,.write,.pure,.pure,.pure,.pure,.read,.pure,.read,.read,.pure,.pure,.read,.pure,.pure,.pure] [0,1,2,3,4,5,6,7,8,9,10,11,12,13,14,15,16,17,18,19] bC bC ?_;refine sB ?_;exact zq.1):p:=h ⟨a⟩
theorem Nn(a:q)(h:ZH q->p:=by intro zq;refine tW ?_;refine BQ ?_;exact zq.1):p:=h ⟨a⟩
theorem oI(a:q)(h:ZH q->p:=by intro zq;refine K.ct rfl rfl ?_;exact zq.1):p:=h ⟨a⟩
theorem Ba(a:q)(h:ZH q->p:=by intro zq;refine Z9 ?_;refine cW ?_;exact zq.1):p:=h ⟨a⟩
theorem T9(a:q)(h:ZH q->p:=by intro zq;refine HZ ?_;refine sC ?_;exact zq.1):p:=h ⟨a⟩
theorem T8(a:q)(h:ZH q->p:=by intro zq;refine sh ?_;refine KO.fo (off:=1) rfl runUnderlying75 rfl rfl sizeOf9 rfl ?_;exact zq.1):p:=h ⟨a⟩
theorem T7(a:q)(h:ZH q->p:=by intro zq;refine K.conv (fun w hw=>cM Df wT (hw.pick (A:=bI dU V.bs H.batch) aQ)) ?_;exact zq.1):p:=h ⟨a⟩
theorem T6(a:q)(h:ZH q->p:=by intro zq;refine KO.jd (i:=ju) rfl rfl runUnderlying93 sizeOf92 rfl ae rfl ?_;exact zq.1):p:=h ⟨a⟩
theorem sA(a:q)(h:ZH q->p:=by intro zq;refine lX ?_;refine sP ?_;exact zq.1):p:=h ⟨a⟩
theorem X9(a:q)(h:ZH q->p:=by intro zq;refine iD ?_;refine lX ?_;exact zq.1):p:=h ⟨a⟩
theorem EV(a:q)(h:ZH q->p:=by intro zq;refine uk ?_;refine Br ?_;exact zq.1):p:=h ⟨a⟩
theorem Nl(a:q)(h:ZH q->p:=by intro zq;refine B9 ?_;refine Vd ?_;exact zq.1):p:=h ⟨a⟩
theorem t_(a:q)(h:ZH q->p:=by intro zq;refine Kc ?_;refine yW ?_;exact zq.1):p:=h ⟨a⟩
theorem tZ(a:q)(h:ZH q->p:=by intro zq;refine cW ?_;refine J5 ?_;exact zq.1):p:=h ⟨a⟩
theorem X8(a:q)(h:ZH q->p:=by intro zq;refine K.ct rfl (by rfl) ?_;(repeat(first|(with_reducible refine KQ.gy ?_)|(with_reducible refine K.skip ?_)));exact zq.1):p:=h ⟨a⟩
theorem A_(a:q)(h:ZH q->p:=by intro zq;refine Z8 ?_;refine Z8 ?_;exact zq.1):p:=h ⟨a⟩
theorem Nk(a:q)(h:ZH q->p:=by intro zq;refine K.Ih ?_;refine HW ?_;exact zq.1):p:=h ⟨a⟩
theorem acy(a:q)(h:ZH q->p:=by intro zq;refine K.draw [.pure,.read,.read,.pure,.pure,.read,.pure,.pure,.pure,.read,.pure,.read,.pure,.pure,.read,.pure,.pure,.pure] [0,1,2,3,4,5,6,7,8,9,10,11,12,13,14,15,16,17] bC bC ?_;refine NO ?_;exact zq.1):p:=h ⟨a⟩
theorem X7(a:q)(h:ZH q->p:=by intro zq;refine Ib ?_;refine KO.vf (cs:=(nV e).toArray) rfl rfl isAgg243 sizeOf243 rfl (hc g rfl k e he) rfl ?_;exact zq.1):p:=h ⟨a⟩
theorem T5(a:q)(h:ZH q->p:=by intro zq;refine KO.bO (i:=14+j) rfl rfl isAgg23 br xI P5 rfl ?_;refine ub ?_;exact zq.1):p:=h ⟨a⟩
theorem X6(a:q)(h:ZH q->p:=by intro zq;refine KO.bO (b:=b5) (cs:=qF x (.slice a x.list.length cap)) (i:=4) rfl rfl isAgg9 aQ (by rfl) rfl rfl ?_;exact zq.1):p:=h ⟨a⟩
theorem sy(a:q)(h:ZH q->p:=by intro zq;refine si ?_;refine Z1 ?_;exact zq.1):p:=h ⟨a⟩
theorem EU(a:q)(h:ZH q->p:=by intro zq;refine KO.mki rfl bC rfl ?_;exact zq.1):p:=h ⟨a⟩
theorem A8(a:q)(h:ZH q->p:=by intro zq;refine KO.lB rfl Y80 rfl rfl ?_;exact zq.1):p:=h ⟨a⟩
theorem X5(a:q)(h:ZH q->p:=by intro zq;refine KR.ct rfl rfl ?_;(repeat(first|(with_reducible refine KQ.u5 ?_)|(with_reducible refine KR.skip ?_)));exact zq.1):p:=h ⟨a⟩
theorem acx(a:q)(h:ZH q->p:=by intro zq;refine K.draw [.pure,.pure,.pure,.read,.pure,.pure,.pure,.pure,.read,.pure,.pure,.pure,.pure,.pure,.pure,.ef,.write] [0,1,2,3,4,5,6,7,8,9,10,11,12,13,14,15,16] bC bC ?_;refine sB ?_;exact zq.1):p:=h ⟨a⟩
theorem acw(a:q)(h:ZH q->p:=by intro zq;refine rJ ?_;refine K.draw [.pure,.pure,.pure,.pure,.pure,.pure,.read,.pure,.pure,.read,.ef,.pure,.pure,.write,.pure,.pure,.pure] [0,1,2,3,4,5,6,7,8,9,11,10,12,13,14,15,16] bC bC ?_;exact zq.1):p:=h ⟨a⟩
theorem T4(a:q)(h:ZH q->p:=by intro zq;refine Iv ?_;refine KO.bO (i:=30+j) rfl rfl isAgg3 br yY d1 rfl ?_;exact zq.1):p:=h ⟨a⟩
theorem Qp(a:q)(h:ZH q->p:=by intro zq;refine KO.wB rfl rfl isAgg75 sizeOf75 aQ aN rfl ?_;exact zq.1):p:=h ⟨a⟩
theorem X4(a:q)(h:ZH q->p:=by intro zq;refine KO.nil ?_;(repeat(first|(with_reducible refine KQ.u5 ?_)|(with_reducible refine KQ.gy ?_)));exact zq.1):p:=h ⟨a⟩
theorem T3(a:q)(h:ZH q->p:=by intro zq;refine KO.fG (off:=7) rfl runUnderlying133 rfl rfl sizeOf123 rfl ?_;exact zq.1):p:=h ⟨a⟩
theorem acv(a:q)(h:ZH q->p:=by intro zq;(repeat(first|(with_reducible refine KQ.next ?_)|(with_reducible refine KQ.iE ?_)|(with_reducible refine KQ.kj ?_)|(with_reducible refine KQ.gy ?_)|(with_reducible refine K.exit ?_)));exact zq.1):p:=h ⟨a⟩
theorem T2(a:q)(h:ZH q->p:=by intro zq;refine KO.My rfl rfl runUnderlying86 sizeOf75 aN ae rfl ?_;exact zq.1):p:=h ⟨a⟩
theorem T1(a:q)(h:ZH q->p:=by intro zq;refine KO.fG (off:=22) rfl runUnderlying97 rfl rfl sizeOf95 rfl ?_;exact zq.1):p:=h ⟨a⟩
theorem tY(a:q)(h:ZH q->p:=by intro zq;refine Na ?_;refine Z3 ?_;exact zq.1):p:=h ⟨a⟩
theorem tX(a:q)(h:ZH q->p:=by intro zq;refine TH ?_;refine Z0 ?_;exact zq.1):p:=h ⟨a⟩
theorem HU(a:q)(h:ZH q->p:=by intro zq;refine Fb ?_;refine Z3 ?_;exact zq.1):p:=h ⟨a⟩
theorem acu(a:q)(h:ZH q->p:=by intro zq;refine K.draw [.pure,.pure,.pure,.pure,.pure,.pure,.pure,.pure,.pure,.read,.read,.write,.pure,.pure,.pure,.pure] [0,1,2,3,4,5,6,7,8,9,10,11,12,13,14,15] bC bC ?_;refine gZ ?_;exact zq.1):p:=h ⟨a⟩
theorem vH(a:q)(h:ZH q->p:=by intro zq;refine tW ?_;refine kq ?_;exact zq.1):p:=h ⟨a⟩
theorem X3(a:q)(h:ZH q->p:=by intro zq;refine KO.cutFrom (lo:=k+1) rfl rfl underlying86 sizeOf75 ae ae ae rfl ?_;exact zq.1):p:=h ⟨a⟩
theorem acs(a:q)(h:ZH q->p:=by intro zq;refine KO.gO (i:=k) rfl rfl runUnderlying92 sizeOf278 rfl ae rfl ?_;refine KO.BE (i:=k) (sz:=7) (cf:=GY V2.ps) rfl rfl isAgg278 sizeOf278 br (fun _=>rfl) hd rfl ?_;exact zq.1):p:=h ⟨a⟩
theorem TY(a:q)(h:ZH q->p:=by intro zq;refine KO.fG (off:=6) rfl runUnderlying271 rfl rfl sizeOf3 rfl ?_;exact zq.1):p:=h ⟨a⟩
theorem TX(a:q)(h:ZH q->p:=by intro zq;refine KO.fG (off:=12) rfl runUnderlying97 rfl rfl sizeOf3 rfl ?_;exact zq.1):p:=h ⟨a⟩
theorem acr(a:q)(h:ZH q->p:=by intro zq;refine KO.gO (i:=0) rfl rfl runUnderlying115 sizeOf9 rfl ah rfl ?_;refine KO.j7 (i:=0) (sz:=1) (cf:=mf) (e:=wa) rfl rfl isAgg9 aQ (fun _=>rfl) rfl aN aN rfl ?_;exact zq.1):p:=h ⟨a⟩
theorem acq(a:q)(h:ZH q->p:=by intro zq;refine KO.gO (i:=1) rfl rfl runUnderlying115 sizeOf9 rfl ah rfl ?_;refine KO.j7 (i:=1) (sz:=1) (cf:=mf) (e:=wb) rfl rfl isAgg9 aQ (fun _=>rfl) rfl aN aN rfl ?_;exact zq.1):p:=h ⟨a⟩
theorem acp(a:q)(h:ZH q->p:=by intro zq;refine KO.gO (i:=4) rfl rfl runUnderlying115 sizeOf9 rfl ah rfl ?_;refine KO.j7 (i:=4) (sz:=1) (cf:=mf) (e:=we) rfl rfl isAgg9 aQ (fun _=>rfl) rfl aN aN rfl ?_;exact zq.1):p:=h ⟨a⟩
theorem aco(a:q)(h:ZH q->p:=by intro zq;refine KO.gO (i:=2) rfl rfl runUnderlying115 sizeOf9 rfl ai rfl ?_;refine KO.j7 (i:=2) (sz:=1) (cf:=mf) (e:=wc) rfl rfl isAgg9 br (fun _=>rfl) rfl aN aN rfl ?_;exact zq.1):p:=h ⟨a⟩
theorem acn(a:q)(h:ZH q->p:=by intro zq;refine KO.gO (i:=k) rfl rfl runUnderlying152 sizeOf119 rfl Zs rfl ?_;refine KO.j7 (i:=k) (sz:=1) (cf:=D7) (e:=p) rfl rfl isAgg119 .head (fun _=>rfl) hpj aN aN rfl ?_;exact zq.1):p:=h ⟨a⟩
theorem TW(a:q)(h:ZH q->p:=by intro zq;refine KO.bO (b:=b) (i:=18+j) rfl rfl isAgg3 aQ xI U4 rfl ?_;exact zq.1):p:=h ⟨a⟩
theorem J4(a:q)(h:ZH q->p:=by intro zq;refine K.ct rfl (by rfl) ?_;refine Z6 ?_;exact zq.1):p:=h ⟨a⟩
theorem X2(a:q)(h:ZH q->p:=by intro zq;refine cW ?_;refine KO.wB (cs:=pU (fB u e)) rfl rfl isAgg271 sizeOf271 br aN rfl ?_;exact zq.1):p:=h ⟨a⟩
theorem B2(a:q)(h:ZH q->p:=by intro zq;refine sx ?_;refine Z3 ?_;exact zq.1):p:=h ⟨a⟩
theorem X1(a:q)(h:ZH q->p:=by intro zq;refine KO.AR (pl:=[(0,1),(1,1),(2,1)]) rfl zeroValue75 runUnderlying75 Y19 aN rfl ?_;exact zq.1):p:=h ⟨a⟩
theorem xd(a:q)(h:ZH q->p:=by intro zq;refine m_ ?_;refine AZ ?_;exact zq.1):p:=h ⟨a⟩
theorem Ni(a:q)(h:ZH q->p:=by intro zq;refine lX ?_;refine Na ?_;exact zq.1):p:=h ⟨a⟩
theorem xc(a:q)(h:ZH q->p:=by intro zq;refine qV ?_;refine gY ?_;exact zq.1):p:=h ⟨a⟩
theorem Nh(a:q)(h:ZH q->p:=by intro zq;refine KO.oQ rfl rfl rfl aN Y46 aN br aN ?_;exact zq.1):p:=h ⟨a⟩
theorem acm(a:q)(h:ZH q->p:=by intro zq;refine HV ?_;(repeat(first|(with_reducible refine KQ.iE ?_)|(with_reducible refine KQ.kj ?_)|(with_reducible refine KQ.gy ?_)|(with_reducible refine K.exit ?_)));exact zq.1):p:=h ⟨a⟩
theorem X0(a:q)(h:ZH q->p:=by intro zq;refine K.draw [.pure,.pure,.pure,.read,.read,.pure] [0,1,2,3,4,5] bC bC ?_;refine sB ?_;exact zq.1):p:=h ⟨a⟩
theorem acj(a:q)(h:ZH q->p:=by intro zq;refine K.conv (fun w hw=>lR (hw.ey (A:=DT b (.slice (some ⟨gq,0,none⟩) l.length cq)) (B:=s8 (.slice (some ⟨gq,0,none⟩) l.length cq) l) aQ aQ)) ?_;refine gY ?_;exact zq.1):p:=h ⟨a⟩
theorem yg(a:q)(h:ZH q->p:=by intro zq;refine iz ?_;refine AZ ?_;exact zq.1):p:=h ⟨a⟩
theorem yf(a:q)(h:ZH q->p:=by intro zq;refine jo ?_;refine Yj ?_;exact zq.1):p:=h ⟨a⟩
theorem ye(a:q)(h:ZH q->p:=by intro zq;refine K.Ih ?_;refine B6 ?_;refine qV ?_;exact zq.1):p:=h ⟨a⟩
theorem yd(a:q)(h:ZH q->p:=by intro zq;refine Iu ?_;refine xe ?_;exact zq.1):p:=h ⟨a⟩
theorem Qo(a:q)(h:ZH q->p:=by intro zq;refine T9 ?_;refine qG ?_;exact zq.1):p:=h ⟨a⟩
theorem Qn(a:q)(h:ZH q->p:=by intro zq;refine K.conv (fun w hw=>hw.pick (A:=gR b l) aQ) ?_;exact zq.1):p:=h ⟨a⟩
theorem Ng(a:q)(h:ZH q->p:=by intro zq;refine KO.Re rfl rfl br rfl ?_;refine Yl ?_;exact zq.1):p:=h ⟨a⟩
theorem aci(a:q)(h:ZH q->p:=by intro zq;refine KO.AR (pl:=[(0,1),(1,5),(6,1)]) rfl zeroValue278 runUnderlying278 (by intro w;simp[sizeOf4,sizeOf44,sizeOf90]) aN rfl ?_;refine Nu ?_;exact zq.1):p:=h ⟨a⟩
theorem XZ(a:q)(h:ZH q->p:=by intro zq;refine KO.AR (pl:=[(0,1),(1,1)]) rfl zeroValue122 runUnderlying122 Y17 aN rfl ?_;exact zq.1):p:=h ⟨a⟩
theorem J3(a:q)(h:ZH q->p:=by intro zq;refine Z8 ?_;refine nX ?_;exact zq.1):p:=h ⟨a⟩
theorem yc(a:q)(h:ZH q->p:=by intro zq;refine Z9 ?_;refine xf ?_;exact zq.1):p:=h ⟨a⟩
theorem yb(a:q)(h:ZH q->p:=by intro zq;refine lg ?_;refine Z1 ?_;exact zq.1):p:=h ⟨a⟩
theorem TV(a:q)(h:ZH q->p:=by intro zq;refine XN ?_;refine KO.ldb hw rfl rfl isAgg120 br aN rfl ?_;exact zq.1):p:=h ⟨a⟩
theorem Nf(a:q)(h:ZH q->p:=by intro zq;refine NN ?_;refine KO.no rfl rfl rfl rfl ?_;exact zq.1):p:=h ⟨a⟩
theorem ya(a:q)(h:ZH q->p:=by intro zq;refine Iu ?_;refine nX ?_;exact zq.1):p:=h ⟨a⟩
theorem x9(a:q)(h:ZH q->p:=by intro zq;refine Yl ?_;refine Z0 ?_;exact zq.1):p:=h ⟨a⟩
theorem x8(a:q)(h:ZH q->p:=by intro zq;refine Nn ?_;refine Z1 ?_;exact zq.1):p:=h ⟨a⟩
theorem Qm(a:q)(h:ZH q->p:=by intro zq;refine Z73 ?_;refine Z73 ?_;exact zq.1):p:=h ⟨a⟩
theorem J2(a:q)(h:ZH q->p:=by intro zq;refine K.bW rfl Kf ?_;refine si ?_;exact zq.1):p:=h ⟨a⟩
theorem TU(a:q)(h:ZH q->p:=by intro zq;refine vK ?_;refine kq ?_;exact zq.1):p:=h ⟨a⟩
theorem A7(a:q)(h:ZH q->p:=by intro zq;refine Qf ?_;refine J7 ?_;exact zq.1):p:=h ⟨a⟩
theorem A6(a:q)(h:ZH q->p:=by intro zq;refine ua ?_;refine Lz ?_;exact zq.1):p:=h ⟨a⟩
theorem XY(a:q)(h:ZH q->p:=by intro zq;refine iD ?_;refine KO.fo (off:=0) rfl runUnderlying125 rfl rfl sizeOf86 rfl ?_;exact zq.1):p:=h ⟨a⟩
theorem XX(a:q)(h:ZH q->p:=by intro zq;refine iD ?_;refine KO.fG (off:=13) rfl runUnderlying97 rfl rfl sizeOf3 rfl ?_;exact zq.1):p:=h ⟨a⟩
theorem TS(a:q)(h:ZH q->p:=by intro zq;refine KO.wB rfl rfl isAgg243 sizeOf243 br aN rfl ?_;exact zq.1):p:=h ⟨a⟩
theorem Nd(a:q)(h:ZH q->p:=by intro zq;refine Z2 ?_;refine Z36 ?_;exact zq.1):p:=h ⟨a⟩
theorem x7(a:q)(h:ZH q->p:=by intro zq;refine Z2 ?_;refine nX ?_;exact zq.1):p:=h ⟨a⟩
theorem x6(a:q)(h:ZH q->p:=by intro zq;refine Z2 ?_;refine jL ?_;exact zq.1):p:=h ⟨a⟩
theorem x5(a:q)(h:ZH q->p:=by intro zq;refine Z1 ?_;refine Z25 ?_;exact zq.1):p:=h ⟨a⟩
theorem ach(a:q)(h:ZH q->p:=by intro zq;refine KO.jd (i:=j) rfl rfl runUnderlying94 sizeOf23 Bk ae rfl ?_;refine KO.bO (b:=b) (i:=14+j) rfl rfl isAgg23 aQ xI P5 rfl ?_;exact zq.1):p:=h ⟨a⟩
theorem TR(a:q)(h:ZH q->p:=by intro zq;refine XN ?_;refine KO.ld rfl rfl isAgg120 br aN rfl ?_;exact zq.1):p:=h ⟨a⟩
theorem XV(a:q)(h:ZH q->p:=by intro zq;refine KO.AR (pl:=[(0,1)]) rfl zeroValue171 runUnderlying171 Y28 aN rfl ?_;exact zq.1):p:=h ⟨a⟩
theorem TQ(a:q)(h:ZH q->p:=by intro zq;refine KO.bO (i:=off) rfl rfl isAgg86 aQ rfl hc rfl ?_;exact zq.1):p:=h ⟨a⟩
theorem TP(a:q)(h:ZH q->p:=by intro zq;refine KO.oQ rfl rfl rfl aN Y44 aN br aN ?_;refine Z0 ?_;exact zq.1):p:=h ⟨a⟩
theorem XU(a:q)(h:ZH q->p:=by intro zq;refine cW ?_;refine vO ?_;exact zq.1):p:=h ⟨a⟩
theorem A5(a:q)(h:ZH q->p:=by intro zq;refine lX ?_;refine EG ?_;exact zq.1):p:=h ⟨a⟩
theorem A4(a:q)(h:ZH q->p:=by intro zq;refine pC ?_;refine Br ?_;exact zq.1):p:=h ⟨a⟩
theorem A3(a:q)(h:ZH q->p:=by intro zq;refine TI ?_;refine EG ?_;exact zq.1):p:=h ⟨a⟩
theorem Nc(a:q)(h:ZH q->p:=by intro zq;refine KO.sub rfl rfl rfl ae rfl ?_;exact zq.1):p:=h ⟨a⟩
theorem XT(a:q)(h:ZH q->p:=by intro zq;refine KO.gO (i:=i) rfl rfl runUnderlying49 sizeOf44 rfl ae rfl ?_;exact zq.1):p:=h ⟨a⟩
theorem TO(a:q)(h:ZH q->p:=by intro zq;refine KO.ld (v:=bN bh) rfl rfl isAgg29 aQ aN rfl ?_;exact zq.1):p:=h ⟨a⟩
theorem XS(a:q)(h:ZH q->p:=by intro zq;refine KO.ldE rfl rfl isAgg3 br (fun _=>rfl) sE aN aN rfl ?_;refine sD ?_;exact zq.1):p:=h ⟨a⟩
theorem acg(a:q)(h:ZH q->p:=by intro zq;refine gY ?_;refine KO.AR (pl:=[(0,1),(1,1)]) rfl zeroValue130 runUnderlying130 (by intro w;simp[sizeOf127,sizeOf128]) aN rfl ?_;exact zq.1):p:=h ⟨a⟩
theorem acf(a:q)(h:ZH q->p:=by intro zq;refine KO.gO rfl rfl runUnderlying86 sizeOf75 aN ae rfl ?_;refine KO.BE rfl rfl isAgg75 sizeOf75 aQ (fun _=>rfl) sE rfl ?_;exact zq.1):p:=h ⟨a⟩
theorem XR(a:q)(h:ZH q->p:=by intro zq;refine KO.gO (i:=i) rfl rfl runUnderlying23 sizeOf3 rfl ae rfl ?_;exact zq.1):p:=h ⟨a⟩
theorem B1(a:q)(h:ZH q->p:=by intro zq;refine Nl ?_;refine Vd ?_;exact zq.1):p:=h ⟨a⟩
theorem BZ(a:q)(h:ZH q->p:=by intro zq;refine oK ?_;refine jo ?_;exact zq.1):p:=h ⟨a⟩
theorem BY(a:q)(h:ZH q->p:=by intro zq;refine Is ?_;refine oL ?_;exact zq.1):p:=h ⟨a⟩
theorem BX(a:q)(h:ZH q->p:=by intro zq;refine oJ ?_;refine Lz ?_;exact zq.1):p:=h ⟨a⟩
theorem BW(a:q)(h:ZH q->p:=by intro zq;refine vJ ?_;refine Kb ?_;exact zq.1):p:=h ⟨a⟩
theorem ace(a:q)(h:ZH q->p:=by intro zq;refine KO.fG (off:=1) rfl runUnderlying278 rfl rfl sizeOf44 rfl ?_;refine KO.fo (off:=0) rfl runUnderlying44 rfl rfl sizeOf3 rfl ?_;exact zq.1):p:=h ⟨a⟩
theorem XQ(a:q)(h:ZH q->p:=by intro zq;refine JM ?_;refine KO.ld (v:=.string x.queue) rfl rfl isAgg9 br aN rfl ?_;exact zq.1):p:=h ⟨a⟩
theorem XP(a:q)(h:ZH q->p:=by intro zq;refine iD ?_;refine B4 ?_;exact zq.1):p:=h ⟨a⟩
theorem TN(a:q)(h:ZH q->p:=by intro zq;refine B4 ?_;refine KO.neB rfl rfl underlying4 rfl ?_;exact zq.1):p:=h ⟨a⟩
theorem xa(a:q)(h:ZH q->p:=by intro zq;refine K.bW rfl rfl ?_;exact zq.1):p:=h ⟨a⟩
theorem acd(a:q)(h:ZH q->p:=by intro zq;refine KO.jd (i:=j) rfl rfl runUnderlying93 sizeOf92 rfl ae rfl ?_;refine KO.bO (i:=7+j) rfl rfl isAgg92 br xI c7 rfl ?_;exact zq.1):p:=h ⟨a⟩
theorem A2(a:q)(h:ZH q->p:=by intro zq;refine lX ?_;refine Z1 ?_;exact zq.1):p:=h ⟨a⟩
theorem A1(a:q)(h:ZH q->p:=by intro zq;refine qW ?_;refine Z1 ?_;exact zq.1):p:=h ⟨a⟩
theorem di(a:q)(h:ZH q->p:=by intro zq;refine K.Ih ?_;exact zq.1):p:=h ⟨a⟩
theorem Ql(a:q)(h:ZH q->p:=by intro zq;refine KO.ld rfl rfl isAgg49 aQ aN rfl ?_;exact zq.1):p:=h ⟨a⟩
theorem Qk(a:q)(h:ZH q->p:=by intro zq;refine KO.ld rfl rfl isAgg29 aQ aN rfl ?_;exact zq.1):p:=h ⟨a⟩
theorem TM(a:q)(h:ZH q->p:=by intro zq;refine KO.len rfl underlying169 rfl ?_;refine oL ?_;exact zq.1):p:=h ⟨a⟩
theorem TL(a:q)(h:ZH q->p:=by intro zq;refine KO.len rfl underlying115 rfl ?_;refine oL ?_;exact zq.1):p:=h ⟨a⟩
theorem ET(a:q)(h:ZH q->p:=by intro zq;refine B9 ?_;refine Nt ?_;exact zq.1):p:=h ⟨a⟩
theorem ES(a:q)(h:ZH q->p:=by intro zq;refine XU ?_;refine rL ?_;exact zq.1):p:=h ⟨a⟩
theorem BV(a:q)(h:ZH q->p:=by intro zq;refine lX ?_;refine EF ?_;exact zq.1):p:=h ⟨a⟩
theorem TK(a:q)(h:ZH q->p:=by intro zq;refine yW ?_;refine Nj ?_;exact zq.1):p:=h ⟨a⟩
theorem XM(a:q)(h:ZH q->p:=by intro zq;refine KO.BE rfl rfl isAgg271 sizeOf271 aQ (fun _=>rfl) sE rfl ?_;exact zq.1):p:=h ⟨a⟩
theorem BU(a:q)(h:ZH q->p:=by intro zq;refine iD ?_;refine sh ?_;exact zq.1):p:=h ⟨a⟩
theorem XL(a:q)(h:ZH q->p:=by intro zq;refine KO.abr (off:=0) rfl runUnderlying130 rfl rfl sizeOf127 rfl ?_;exact zq.1):p:=h ⟨a⟩
theorem XK(a:q)(h:ZH q->p:=by intro zq;refine KO.abr (off:=1) rfl runUnderlying130 rfl rfl sizeOf128 rfl ?_;exact zq.1):p:=h ⟨a⟩
theorem HQ(a:q)(h:ZH q->p:=by intro zq;refine KO.cat rfl rfl Y16 rfl ?_;exact zq.1):p:=h ⟨a⟩
theorem acb(a:q)(h:ZH q->p:=by intro zq;refine KQ.conv (fun w hw=>(St.zc (B:=[bA l (.loop ⟨.busy,none,fn,tm,#[p],assign,body,b⟩),bA b (.deferred (some []))]) hw)) ?_;exact zq.1):p:=h ⟨a⟩
theorem XJ(a:q)(h:ZH q->p:=by intro zq;refine KO.My rfl rfl runUnderlying49 sizeOf44 aN ae rfl ?_;exact zq.1):p:=h ⟨a⟩
theorem XI(a:q)(h:ZH q->p:=by intro zq;refine Xx ?_;refine KO.bO (i:=2) rfl rfl isAgg89 aQ rfl rfl rfl ?_;exact zq.1):p:=h ⟨a⟩
theorem XH(a:q)(h:ZH q->p:=by intro zq;refine KO.fG (off:=1) rfl runUnderlying122 rfl rfl sizeOf3 rfl ?_;exact zq.1):p:=h ⟨a⟩
theorem XG(a:q)(h:ZH q->p:=by intro zq;refine KO.fG (off:=3) rfl runUnderlying97 rfl rfl sizeOf91 rfl ?_;exact zq.1):p:=h ⟨a⟩
theorem XF(a:q)(h:ZH q->p:=by intro zq;refine Ka ?_;refine KO.bO (i:=0) rfl rfl isAgg3 br rfl c0 rfl ?_;exact zq.1):p:=h ⟨a⟩
theorem Qj(a:q)(h:ZH q->p:=by intro zq;refine qQ ?_;refine KO.OG rfl bC rfl ?_;exact zq.1):p:=h ⟨a⟩
theorem XE(a:q)(h:ZH q->p:=by intro zq;refine KO.fo (off:=6) rfl runUnderlying271 rfl rfl sizeOf3 rfl ?_;exact zq.1):p:=h ⟨a⟩
theorem BT(a:q)(h:ZH q->p:=by intro zq;refine Z6 ?_;refine gY ?_;exact zq.1):p:=h ⟨a⟩
theorem BS(a:q)(h:ZH q->p:=by intro zq;refine Z8 ?_;refine Zm ?_;exact zq.1):p:=h ⟨a⟩
theorem J1(a:q)(h:ZH q->p:=by intro zq;refine KO.oW rfl sE rfl rfl ?_;exact zq.1):p:=h ⟨a⟩
theorem BR(a:q)(h:ZH q->p:=by intro zq;refine KO.on rfl rfl Y69 ?_;exact zq.1):p:=h ⟨a⟩
theorem ab_(a:q)(h:ZH q->p:=by intro zq;refine TF ?_;refine KO.bO (b:=JK) (cs:=qF x (.slice la x.list.length lc)) (i:=2) rfl rfl isAgg3 aQ (by rfl) rfl rfl ?_;exact zq.1):p:=h ⟨a⟩
theorem ER(a:q)(h:ZH q->p:=by intro zq;refine uk ?_;refine kq ?_;exact zq.1):p:=h ⟨a⟩
theorem EP(a:q)(h:ZH q->p:=by intro zq;refine Z1 ?_;refine vI ?_;exact zq.1):p:=h ⟨a⟩
theorem EO(a:q)(h:ZH q->p:=by intro zq;refine uk ?_;refine qW ?_;exact zq.1):p:=h ⟨a⟩
theorem EM(a:q)(h:ZH q->p:=by intro zq;refine B6 ?_;refine Z3 ?_;exact zq.1):p:=h ⟨a⟩
theorem ab9(a:q)(h:ZH q->p:=by intro zq;refine K.draw [.pure,.pure,.pure,.read,.pure,.read,.pure,.ef,.write] [0,1,2,3,4,5,6,7,8] bC bC ?_;refine sB ?_;exact zq.1):p:=h ⟨a⟩
theorem EL(a:q)(h:ZH q->p:=by intro zq;refine Qg ?_;refine gZ ?_;exact zq.1):p:=h ⟨a⟩
theorem EK(a:q)(h:ZH q->p:=by intro zq;refine gZ ?_;refine iD ?_;exact zq.1):p:=h ⟨a⟩
theorem HJ(a:q)(h:ZH q->p:=by intro zq;refine vK ?_;refine TU ?_;exact zq.1):p:=h ⟨a⟩
theorem HH(a:q)(h:ZH q->p:=by intro zq;refine EV ?_;refine kr ?_;exact zq.1):p:=h ⟨a⟩
theorem HG(a:q)(h:ZH q->p:=by intro zq;refine Qo ?_;refine HU ?_;exact zq.1):p:=h ⟨a⟩
theorem ab8(a:q)(h:ZH q->p:=by intro zq;refine K.draw [.pure,.pure,.pure,.read,.pure,.pure,.pure,.read,.pure] [0,1,2,3,4,5,6,7,8] bC bC ?_;refine gZ ?_;exact zq.1):p:=h ⟨a⟩
theorem ab7(a:q)(h:ZH q->p:=by intro zq;refine KO.fG (off:=0) rfl runUnderlying167 rfl rfl sizeOf70 rfl ?_;refine KO.ld rfl rfl isAgg70 br aN rfl ?_;exact zq.1):p:=h ⟨a⟩
theorem ab6(a:q)(h:ZH q->p:=by intro zq;refine KO.fG (off:=6) rfl runUnderlying278 rfl rfl sizeOf90 rfl ?_;refine KO.ld rfl rfl isAgg90 br aN rfl ?_;exact zq.1):p:=h ⟨a⟩
theorem ab5(a:q)(h:ZH q->p:=by intro zq;refine KO.fG (off:=0) rfl runUnderlying278 rfl rfl sizeOf4 rfl ?_;refine KO.ld rfl rfl isAgg4 br aN rfl ?_;exact zq.1):p:=h ⟨a⟩
theorem EJ(a:q)(h:ZH q->p:=by intro zq;refine jo ?_;refine Z1 ?_;exact zq.1):p:=h ⟨a⟩
theorem EI(a:q)(h:ZH q->p:=by intro zq;refine Z0 ?_;refine cW ?_;exact zq.1):p:=h ⟨a⟩
theorem HD(a:q)(h:ZH q->p:=by intro zq;refine rK ?_;refine Qe ?_;exact zq.1):p:=h ⟨a⟩
theorem Hz(a:q)(h:ZH q->p:=by intro zq;refine J9 ?_;refine kq ?_;exact zq.1):p:=h ⟨a⟩
theorem Hy(a:q)(h:ZH q->p:=by intro zq;refine Ba ?_;refine kq ?_;exact zq.1):p:=h ⟨a⟩
theorem ab4(a:q)(h:ZH q->p:=by intro zq;refine Nk ?_;refine qG ?_;exact zq.1):p:=h ⟨a⟩
theorem Hx(a:q)(h:ZH q->p:=by intro zq;refine sh ?_;refine H_ ?_;refine sh ?_;exact zq.1):p:=h ⟨a⟩
theorem Hw(a:q)(h:ZH q->p:=by intro zq;refine qW ?_;refine X9 ?_;exact zq.1):p:=h ⟨a⟩
theorem Hv(a:q)(h:ZH q->p:=by intro zq;refine LB ?_;refine Yl ?_;refine A_ ?_;exact zq.1):p:=h ⟨a⟩
theorem Hu(a:q)(h:ZH q->p:=by intro zq;refine lW ?_;refine HV ?_;exact zq.1):p:=h ⟨a⟩
theorem Ht(a:q)(h:ZH q->p:=by intro zq;refine Ni ?_;refine tW ?_;exact zq.1):p:=h ⟨a⟩
theorem EH(a:q)(h:ZH q->p:=by intro zq;refine Qg ?_;refine Z1 ?_;exact zq.1):p:=h ⟨a⟩
theorem Hr(a:q)(h:ZH q->p:=by intro zq;refine iD ?_;refine Uf ?_;exact zq.1):p:=h ⟨a⟩
theorem Qh(a:q)(h:ZH q->p:=by intro zq;refine B2 ?_;refine K.bW rfl Y76 ?_;exact zq.1):p:=h ⟨a⟩
theorem Hq(a:q)(h:ZH q->p:=by intro zq;refine cW ?_;refine Yn ?_;exact zq.1):p:=h ⟨a⟩
theorem Hp(a:q)(h:ZH q->p:=by intro zq;refine Qm ?_;refine Z73 ?_;refine XP ?_;exact zq.1):p:=h ⟨a⟩
theorem ab3(a:q)(h:ZH q->p:=by intro zq;refine jL ?_;refine K.draw [.pure,.pure,.pure,.pure,.pure,.pure,.write,.pure] [0,1,2,3,4,5,6,7] bC bC ?_;exact zq.1):p:=h ⟨a⟩
theorem ab2(a:q)(h:ZH q->p:=by intro zq;refine K.draw [.pure,.pure,.pure,.read,.pure,.read,.read,.pure] [0,1,2,3,4,5,6,7] bC bC ?_;refine sB ?_;exact zq.1):p:=h ⟨a⟩
theorem ab1(a:q)(h:ZH q->p:=by intro zq;refine QF ?_;refine KO.vf (cs:=(pU e).toArray) rfl rfl isAgg271 sizeOf271 rfl (hc g rfl k e he) rfl ?_;exact zq.1):p:=h ⟨a⟩
theorem XD(a:q)(h:ZH q->p:=by intro zq;refine KO.ldb hw rfl rfl isAgg3 br aN rfl ?_;refine EF ?_;exact zq.1):p:=h ⟨a⟩
theorem Hn(a:q)(h:ZH q->p:=by intro zq;refine vO ?_;refine iD ?_;exact zq.1):p:=h ⟨a⟩
theorem Hm(a:q)(h:ZH q->p:=by intro zq;refine TH ?_;refine AZ ?_;exact zq.1):p:=h ⟨a⟩
theorem Hl(a:q)(h:ZH q->p:=by intro zq;refine Zj ?_;refine sP ?_;refine KO.sl rfl rfl isAgg3 c1 rfl ?_;refine EF ?_;refine Z1 ?_;exact zq.1):p:=h ⟨a⟩
theorem XC(a:q)(h:ZH q->p:=by intro zq;refine KO.bO (i:=3+j) rfl rfl isAgg90 br xI c3 rfl ?_;exact zq.1):p:=h ⟨a⟩
theorem Hk(a:q)(h:ZH q->p:=by intro zq;refine Z82 ?_;refine Zl ?_;exact zq.1):p:=h ⟨a⟩
theorem Hj(a:q)(h:ZH q->p:=by intro zq;refine g_ ?_;refine XO ?_;refine Z1 ?_;exact zq.1):p:=h ⟨a⟩
theorem Hh(a:q)(h:ZH q->p:=by intro zq;refine KO.mkc rfl rfl rfl ?_;exact zq.1):p:=h ⟨a⟩
theorem Hg(a:q)(h:ZH q->p:=by intro zq;refine KO.neS rfl rfl rfl ?_;exact zq.1):p:=h ⟨a⟩
theorem J0(a:q)(h:ZH q->p:=by intro zq;refine Nd ?_;refine EU ?_;exact zq.1):p:=h ⟨a⟩
theorem JZ(a:q)(h:ZH q->p:=by intro zq;refine ab4 ?_;refine TK ?_;refine J7 ?_;exact zq.1):p:=h ⟨a⟩
theorem JY(a:q)(h:ZH q->p:=by intro zq;refine ub ?_;refine oL ?_;exact zq.1):p:=h ⟨a⟩
theorem JX(a:q)(h:ZH q->p:=by intro zq;refine qQ ?_;refine yi ?_;exact zq.1):p:=h ⟨a⟩
theorem JW(a:q)(h:ZH q->p:=by intro zq;refine HZ ?_;refine B9 ?_;exact zq.1):p:=h ⟨a⟩
theorem JV(a:q)(h:ZH q->p:=by intro zq;refine K.bW rfl (by rfl) ?_;exact zq.1):p:=h ⟨a⟩
theorem ab0(a:q)(h:ZH q->p:=by intro zq;refine KO.j7 (i:=2) (sz:=1) (cf:=mf) (e:=wc) rfl rfl isAgg9 aQ (fun _=>rfl) rfl aN aN rfl ?_;exact zq.1):p:=h ⟨a⟩
theorem abZ(a:q)(h:ZH q->p:=by intro zq;refine KO.cutFrom (lo:=i+1) rfl rfl underlying169 sizeOf271 ae ae ae rfl ?_;exact zq.1):p:=h ⟨a⟩
theorem Hf(a:q)(h:ZH q->p:=by intro zq;refine Z8 ?_;refine QG ?_;exact zq.1):p:=h ⟨a⟩
theorem He(a:q)(h:ZH q->p:=by intro zq;refine Z8 ?_;refine Xw ?_;exact zq.1):p:=h ⟨a⟩
theorem Hd(a:q)(h:ZH q->p:=by intro zq;refine Z8 ?_;refine Vc ?_;exact zq.1):p:=h ⟨a⟩
theorem JU(a:q)(h:ZH q->p:=by intro zq;refine EG ?_;refine H_ ?_;refine KO.leq rfl rfl rfl ?_;exact zq.1):p:=h ⟨a⟩
theorem JT(a:q)(h:ZH q->p:=by intro zq;refine XW ?_;refine KO.oQ rfl rfl rfl aN Y47 aN aQ aN ?_;refine KO.nil ?_;exact zq.1):p:=h ⟨a⟩
theorem JS(a:q)(h:ZH q->p:=by intro zq;refine BQ ?_;refine X9 ?_;exact zq.1):p:=h ⟨a⟩
theorem JR(a:q)(h:ZH q->p:=by intro zq;refine m_ ?_;refine xe ?_;exact zq.1):p:=h ⟨a⟩
theorem JQ(a:q)(h:ZH q->p:=by intro zq;refine cW ?_;refine Yi ?_;exact zq.1):p:=h ⟨a⟩
theorem JP(a:q)(h:ZH q->p:=by intro zq;refine Iu ?_;refine J3 ?_;exact zq.1):p:=h ⟨a⟩
theorem jk(a:q)(h:ZH q->p:=by intro zq;refine KO.nil ?_;exact zq.1):p:=h ⟨a⟩
theorem XA(a:q)(h:ZH q->p:=by intro zq;refine Z57 ?_;refine KO.sl rfl rfl isAgg4 Jr rfl ?_;exact zq.1):p:=h ⟨a⟩
theorem JO(a:q)(h:ZH q->p:=by intro zq;refine gY ?_;refine iD ?_;exact zq.1):p:=h ⟨a⟩
theorem abY(a:q)(h:ZH q->p:=by intro zq;refine K.draw [.pure,.pure,.pure,.read,.write,.pure] [0,1,2,3,4,5] bC bC ?_;refine sB ?_;exact zq.1):p:=h ⟨a⟩
theorem JN(a:q)(h:ZH q->p:=by intro zq;refine KO.gtr rfl rfl rfl ?_;exact zq.1):p:=h ⟨a⟩
theorem abX(a:q)(h:ZH q->p:=by intro zq;refine Nj ?_;refine KO.bO (b:=b19) (cs:=dy x) (i:=0) rfl rfl isAgg3 br rfl rfl rfl ?_;exact zq.1):p:=h ⟨a⟩
theorem abW(a:q)(h:ZH q->p:=by intro zq;refine JM ?_;refine KO.bO (b:=NM) (cs:=dy x) (i:=3) rfl rfl isAgg9 br rfl rfl rfl ?_;exact zq.1):p:=h ⟨a⟩
end
namespace WB
open Go Go.RowKit
abbrev PH:=Nat->Option Obj
def HP:=PH->Prop
def vL (h1 h2:PH):Prop:= ∀k,h1 k=none\/h2 k=none
def qw (h1 h2:PH):PH:=fun k=>(h1 k).or (h2 k)
def emp:HP:=fun h=>∀k,h k=none
def sep (A B:HP):HP:=fun h=> ∃h1 h2,vL h1 h2/\h=qw h1 h2/\A h1/\B h2
def bA (b:Nat) (o:Obj):HP:=fun h=>h b=some o/\∀k,k≠b->h k=none
def Mb (p:Prop):HP:=fun h=>p/\emp h
def ex {α:Sort _} (A:α->HP):HP:=fun h=> ∃x,A x h
def iR:List HP->HP
 |[]=>emp
 |a::l=>sep a (iR l)
structure St (w0:World) (L:List HP) (w:World):Prop where
 os:w.os=w0.os
 tape:w.tape=w0.tape
 output:w.output=w0.output
 size:w0.heap.size<=w.heap.size
 block:∀k,k<w0.heap.size->w.heap[k]? =w0.heap[k]?
 own:∃h:PH,(∀k o,h k=some o->w0.heap.size<=k/\w.heap[k]? =some o)/\iR L h
inductive bB:List HP->HP->List HP->Prop
 |head {a:HP} {L:List HP}:bB (a::L) a L
 |tail {x a:HP} {L R:List HP}:bB L a R->bB (x::L) a (x::R)
theorem uD{h1 h2:PH}(d:vL h1 h2):qw h1 h2=qw h2 h1:=by
 funext k;unfold qw;rcases d k with h|h<;>simp[h]
theorem vL.symm{h1 h2:PH}(d:vL h1 h2):vL h2 h1:=fun k=>(d k).symm
theorem oO(h1 h2 h3:PH):qw (qw h1 h2) h3=qw h1 (qw h2 h3):=by
 funext k;unfold qw;cases h1 k<;>simp
theorem pw{h1 h2 h3:PH}:vL (qw h1 h2) h3↔vL h1 h3/\vL h2 h3:=by
 constructor
 ·intro d;constructor<;>intro k<;>have :=d k<;>simp[qw]at this <;>rcases this with h|h<;>simp[h]
 ·rintro⟨d1,d2⟩ k;rcases d1 k with h|h
  ·rcases d2 k with h'|h'
   ·left;simp[qw,h,h']
   ·right;exact h'
  ·right;exact h
theorem mY{h1 h2 h3:PH}:vL h3 (qw h1 h2)↔vL h3 h1/\vL h3 h2:=by
 constructor
 ·intro d;exact⟨(pw.1 d.symm).1.symm,(pw.1 d.symm).2.symm⟩
 ·rintro⟨a,b⟩;exact(pw.2 ⟨a.symm,b.symm⟩).symm
theorem Fx{A B:HP}{h:PH}(H:sep A B h):sep B A h:=by
 obtain⟨h1,h2,d,rfl,a,b⟩:=H;exact⟨h2,h1,d.symm,uD d,b,a⟩
theorem mP{A B C:HP}{h:PH}:sep (sep A B) C h↔sep A (sep B C) h:=by
 constructor
 ·rintro⟨W0,h3,d,rfl,⟨h1,h2,d',rfl,a,b⟩,c⟩;rw[pw]at d;exact⟨h1,qw h2 h3,mY.2 ⟨d',d.1⟩,oO _ _ _,a,h2,h3,d.2,rfl,b,c⟩
 ·rintro⟨h1,h23,d,rfl,a,h2,h3,d',rfl,b,c⟩;rw[mY]at d;exact⟨qw h1 h2,h3,pw.2 ⟨d.2,d'⟩,(oO _ _ _).symm,⟨h1,h2,d.1,rfl,a,b⟩,c⟩
theorem gE{A A' B B':HP}(ha:∀h,A h->A' h)(hb:∀h,B h->B' h){h:PH}(H:sep A B h):sep A' B' h:=by
 obtain⟨h1,h2,d,e,a,b⟩:=H;exact⟨h1,h2,d,e,ha _ a,hb _ b⟩
theorem zl{A B C:HP}{h:PH}(H:sep A (sep B C) h):sep B (sep A C) h:=by
 have :=mP.2 H;exact mP.1 (gE (fun _ x=>Fx x) (fun _ x=>x) this)
theorem yr{h1 h2:PH}(e:∀k,h1 k=none):qw h1 h2=h2:=by
 funext k;simp[qw,e]
theorem Ey{A:HP}{h:PH}:sep emp A h↔A h:=by
 constructor
 ·rintro⟨h1,h2,d,rfl,e,a⟩
  rwa [yr e]
 ·intro a;exact⟨fun _=>none,h,fun k=>.inl rfl,(yr (fun _=>rfl)).symm,fun _=>rfl,a⟩
theorem dV{L L':List HP}{h:PH}:iR (L++L') h↔sep (iR L) (iR L') h:=by
 induction L generalizing h with
 |nil=>simp only[List.nil_append,iR];exact Ey.symm
 |cons a L ih=>
  simp only[bz,iR];constructor
  ·intro H;exact mP.2 (gE (fun _ x=>x) (fun _ x=>ih.1 x) H)
  ·intro H;exact gE (fun _ x=>x) (fun _ x=>ih.2 x) (mP.1 H)
theorem bB.iR{L R:List HP}{a:HP}(p:bB L a R){h:PH}(H:WB.iR L h):WB.iR (a::R) h:=by
 induction p generalizing h with
 |head=>exact H
 |tail _ ih=>exact zl (gE (fun _ x=>x) (fun _ x=>ih x) H)
theorem bB.Vs{L R:List HP}{a:HP}(p:bB L a R){h:PH}(H:WB.iR (a::R) h):WB.iR L h:=by
 induction p generalizing h with
 |head=>exact H
 |tail _ ih=>exact gE (fun _ x=>x) (fun _ x=>ih x) (zl H)
namespace St
variable {w0 w:World} {L L' R:List HP} {A B:HP}
theorem j0(h:St w0 L w)(f:∀x,iR L x->iR L' x):St w0 L' w:=
 {h with own:=let⟨x,a,b⟩:=h.own;⟨x,a,f x b⟩}
theorem pick(h:St w0 L w)(p:bB L A R):St w0 (A::R) w:=h.j0 fun _=>p.iR
theorem vR(h:St w0 (A::R) w)(p:bB L A R):St w0 L w:=h.j0 fun _=>p.Vs
theorem imp(h:St w0 (A::L) w)(f:∀x,A x->B x):St w0 (B::L) w:=h.j0 fun _=>gE f fun _ x=>x
theorem drop(h:St w0 (A::L) w):St w0 L w:=by
 obtain⟨x,hx,h1,h2,d,rfl,a,b⟩:=h.own;refine {h with own:=⟨h2,fun k o hk=>hx k o ?_,b⟩};rcases d k with e|e
 ·simp[qw,e,hk]
 ·simp[hk]at e
theorem split(h:St w0 (sep A B::L) w):St w0 (A::B::L) w:=h.j0 fun _ x=>mP.1 x
theorem join(h:St w0 (A::B::L) w):St w0 (sep A B::L) w:=h.j0 fun _ x=>mP.2 x
theorem splits(h:St w0 (iR L::L') w):St w0 (L++L') w:=h.j0 fun _ x=>dV.2 x
theorem KZ(h:St w0 (L++L') w):St w0 (iR L::L') w:=h.j0 fun _ x=>dV.1 x
theorem Iq{α:Sort _}{F:α->HP}(h:St w0 (ex F::L) w):∃x,St w0 (F x::L) w:=by
 obtain⟨x,hx,h1,h2,d,e,⟨y,a⟩,b⟩:=h.own;exact⟨y,{h with own:=⟨x,hx,h1,h2,d,e,a,b⟩}⟩
theorem GR{α:Sort _}{F:α->HP}(y:α)(h:St w0 (F y::L) w):St w0 (ex F::L) w:=h.imp fun _ x=>⟨y,x⟩
theorem xP{p:Prop}(h:St w0 (Mb p::L) w):p/\St w0 L w:=by
 refine⟨?_,h.drop⟩;obtain⟨x,hx,h1,h2,d,e,a,b⟩:=h.own;exact a.1
theorem BB{p:Prop}(hp:p)(h:St w0 L w):St w0 (Mb p::L) w:=
 h.j0 fun _ x=>gE (fun _ e=>⟨hp,e⟩) (fun _ x=>x) (Ey.2 x)
theorem abz(h:St w0 L w):St w0 (emp::L) w:=h.j0 fun _ x=>Ey.2 x
theorem look{b:Nat}{o:Obj}(h:St w0 (bA b o::L) w):w0.heap.size<=b/\w.heap[b]? =some o:=by
 obtain⟨x,hx,h1,h2,d,rfl,a,_⟩:=h.own;exact hx b o (by simp[qw,a.1])
theorem nD{b:Nat}{o:Obj}(h:St w0 L w)(p:bB L (bA b o) R):w0.heap.size<=b/\w.heap[b]? =some o:=(h.pick p).look
theorem lt{b:Nat}{o:Obj}(h:St w0 (bA b o::L) w):b<w.heap.size:=by
 have :=h.look.2;exact(Array.getElem?_eq_some_iff.1 this).1
theorem ne{b b':Nat}{o o':Obj}(h:St w0 (bA b o::bA b' o'::L) w):b≠b':=by
 rintro rfl;obtain⟨x,hx,h1,h2,d,rfl,a,h3,h4,d',rfl,a',_⟩:=h.own;have :=d b;simp[a.1,qw,a'.1]at this
theorem init(w0:World):St w0 [] w0:=⟨rfl,rfl,rfl,aP _,fun _ _=>rfl,⟨fun _=>none,fun _ _ h=>by simp at h,fun _=>rfl⟩⟩
theorem below(h:St w0 L w):Below w0.heap.size w0 w:=⟨h.os,h.tape,h.output,h.size,h.block⟩
theorem drew(h:St w0 L w):St w0 L w.drew:=⟨h.os,h.tape,h.output,h.size,h.block,h.own⟩
theorem upd{b:Nat}{o o':Obj}{w':World}(h:St w0 (bA b o::L) w)(e1:w'.os=w.os)(e2:w'.tape=w.tape)(e3:w'.output=w.output)(e4:w'.heap.size=w.heap.size)(e5:w'.heap[b]? =some o')(e6:∀k,k≠b->w'.heap[k]? =w.heap[k]?):St w0 (bA b o'::L) w':=by
 obtain⟨hb,_⟩:=h.look;obtain⟨x,hx,h1,h2,d,rfl,a,c⟩:=h.own;refine⟨e1.trans h.os,e2.trans h.tape,e3.trans h.output,by rw[e4];exact h.size,fun k hk=>by rw[e6 k ae];exact h.block k hk,?_⟩;refine⟨qw (fun k=>if k=b then some o' else none) h2,fun k v hk=>?_,_,h2,?_,rfl,?_,c⟩
 ·by_cases e:k=b
  ·subst e;simp[qw]at hk;subst hk;exact⟨hb,e5⟩
  ·simp[qw,e]at hk;rw[e6 k e];exact hx k v (by simp[qw,hk,a.2 k e])
 ·intro k;by_cases e:k=b
  ·subst e;have :=d k;simp[a.1]at this;exact .inr this
  ·exact .inl (by simp[e])
 ·exact⟨by simp,fun k hk=>by simp[hk]⟩
theorem alloc(h:St w0 L w)(o:Obj):St w0 (bA w.heap.size o::L) (w.alloc o):=by
 obtain⟨x,hx,c⟩:=h.own;have aaE:∀k,w.heap.size<=k->x k=none:=fun k hk=>by
  cases e:x k with
  |none=>rfl
  |some v=>have :=(hx k v e).2;rw[Array.getElem?_eq_none hk]at this;simp at this
 refine⟨h.os,h.tape,h.output,by simp;have :=h.size;omega,fun k hk=>?_,?_⟩
 ·rw[Below.heap_alloc _ _ _ (by have :=h.size;omega)];exact h.block k hk
 ·refine⟨qw (fun k=>if k=w.heap.size then some o else none) x,fun k v hk=>?_,_,x,?_,rfl,?_,c⟩
  ·by_cases e:k=w.heap.size
   ·subst e;simp[qw]at hk;subst hk;exact⟨h.size,by show(w.heap.push o)[w.heap.size]? =_;simp⟩
   ·simp[qw,e]at hk;have :=hx k v hk;refine⟨this.1,?_⟩;rw[Below.heap_alloc _ _ _ ?_]
    ·exact this.2
    ·exact(Array.getElem?_eq_some_iff.1 this.2).1
  ·intro k;by_cases e:k=w.heap.size
   ·exact .inr (aaE k ae)
   ·exact .inl (by simp[e])
  ·exact⟨by simp,fun k hk=>by simp[hk]⟩
end St
end WB
namespace WB
open Go Go.RowKit
def Edge.always (e:Edge):Bool:=match e.ground with| .textOnly _=>false| .gcOnly _=>false|_=>true
def tP (o:Oper):List Nat:=(o.after.toList.filter Edge.always).map (·.on)
theorem kW:∀(l l':List Nat),l.Nodup->(∀x∈l,x∈l')->l.length<=l'.length
 |[],_,_,_=>aH _
 |a::l,l',hn,h=>by
  have ha:a∈l':=h a (List.mem_cons_self)
  have :=kW l (l'.erase a) (bL.1 hn).2 (fun x hx=>by
   have oo:x≠a:=fun e=>(bL.1 hn).1 (e▸hx)
   exact(List.mem_erase_of_ne oo).2 (h x (List.mem_cons_of_mem _ hx)))
  rw[List.length_erase_of_mem ha]at this;have hp:0<l'.length:=List.length_pos_of_mem ha;simp only[List.length_cons];omega
def Valid (ops:Array Oper) (l:List Nat):Prop:=
 l.Nodup/\(∀i,i∈l↔i<ops.size)/\∀p i s,l=p++i::s->∀o,ops[i]? =some o->∀d∈tP o,d∈p
theorem M6(e:Edge):Region.binds .any e=Edge.always e:=by
 unfold Region.binds Edge.always;cases e.ground<;>rfl
theorem nE(m:Region.Mode)(hm:m=.any)(ops:Array Oper)(dN:∀(i:Nat) (o:Oper),ops[i]? =some o->∀d∈tP o,d<i):
 ∀(fuel t:Nat) (listed:Array Bool) (acc:List Nat),listed.size=ops.size->
  (∀i,i<ops.size->(listed.getD i false=true↔i∈acc))->(∀i∈acc,i<ops.size)->acc.Nodup->fuel+acc.length=ops.size->
  (∀p i s,acc.reverse=p++i::s->∀o,ops[i]? =some o->∀d∈tP o,d∈p)->
  Valid ops (Region.linearise.go m ops fuel t listed acc)
 |0,t,listed,acc,hs,hl,hr,hn,hf,hv=>by
  unfold Region.linearise.go;refine⟨(List.reverse_perm acc).nodup_iff.2 hn,fun i=>?_,hv⟩;rw[List.mem_reverse];refine⟨hr i,fun hi=>Classical.byContradiction fun Wp=>?_⟩
  have :=kW (i::acc) (List.range ops.size) (bL.2 ⟨Wp,hn⟩) (fun x hx=>by
   rcases aK.1 hx with rfl|hx
   ·exact cE.2 hi
   ·exact cE.2 (hr x hx))
  simp at this;omega
 |fuel+1,t,listed,acc,hs,hl,hr,hn,hf,hv=>by
  unfold Region.linearise.go;have hex:∃i,i<ops.size/\i∉acc/\∀j,j<i->j∈acc:=by
   have oo:∃i,i<ops.size/\i∉acc:=by
    refine Classical.byContradiction fun hc=>?_
    have cU:∀i,i<ops.size->i∈acc:=fun i hi=>Classical.byContradiction fun h=>hc ⟨i,hi,h⟩
    have :=kW (List.range ops.size) acc List.nodup_range (fun x hx=>cU x (cE.1 hx));simp at this;omega
   obtain⟨i,hi⟩:=oo;have :∀n,∀i,i<=n->(i<ops.size/\i∉acc)->∃i,i<ops.size/\i∉acc/\∀j,j<i->j∈acc:=by
    intro n
    induction n with
    |zero=>intro i yM hi;exact⟨i,hi.1,hi.2,fun j hj=>by omega⟩
    |succ n ih=>
     intro i yM hi;by_cases hc:∃j,j<i/\j∉acc
     ·obtain⟨j,hj,hja⟩:=hc;exact ih j ae ⟨by omega,hja⟩
     ·exact⟨i,hi.1,hi.2,fun j hj=>Classical.byContradiction fun h=>hc ⟨j,hj,h⟩⟩
   exact this i i (aP _) hi
  have wO:∀i,i<ops.size->∀b,listed.getD i b=listed.getD i false:=by
   intro i hi b;simp[Array.getD,hs,hi]
  generalize Wi:((List.range ops.size).filter fun i=> !listed.getD i true&&((ops[i]?).map (·.after.all fun e=> !Region.binds m e||listed.getD e.on false)).getD false)=rs;have jy:∀i,i∈rs↔i<ops.size/\i∉acc/\∃o,ops[i]? =some o/\(o.after.all fun e=> !Region.binds m e||listed.getD e.on false)=true:=by
   intro i;rw[<-Wi,aF,cE];constructor
   ·rintro⟨hi,h⟩;simp only[bm,Bool.not_eq_true']at h;rw[wO i hi]at h;refine⟨hi,fun hc=>?_,ops[i],by simp[hi],?_⟩
    ·have :=(hl i hi).2 hc;simp[this]at h
    ·have h2:=h.2;simp only[Array.getElem?_eq_getElem hi,Option.map_some,Option.getD_some]at h2;exact h2
   ·rintro⟨hi,Wp,o,ho,h⟩;refine⟨hi,?_⟩;rw[wO i hi];have :listed.getD i false=false:=by
     cases hb:listed.getD i false with
     |false=>rfl
     |true=>exact absurd ((hl i hi).1 hb) Wp
    simp only[this,ho,Option.map_some,Option.getD_some,h,Bool.not_false,Bool.and_self]
  have Jh:rs≠[]:=by
   obtain⟨i,hi,Wp,cU⟩:=hex
   have :i∈rs:=(jy i).2 ⟨hi,Wp,ops[i],by simp[hi],by
    rw[Array.all_eq_true'];intro e he;cases hb:Region.binds m e with
    |false=>simp
    |true=>
     rw[hm,M6]at hb;have Wr:=dN i ops[i] (by simp[hi]) e.on (aB.2 ⟨e,aF.2 ⟨Array.mem_toList_iff.2 he,hb⟩,rfl⟩);have :listed.getD e.on false=true:=(hl e.on ae).2 (cU _ Wr)
     simp[this]⟩
   intro h;rw[h]at this;simp at this
  have hlen:0<rs.length:=List.length_pos_iff.2 Jh;have ME:t%rs.length<rs.length:=Nat.mod_lt _ hlen;have aau:rs[t%rs.length]? =some (rs[t%rs.length]'ME):=ak ME;simp only[aau];have yM:=(jy (rs[t%rs.length]'ME)).1 (List.getElem_mem _);generalize (rs[t%rs.length]'ME)=i at yM ⊢;obtain⟨hi,Wp,o,ho,cU⟩:=yM;refine nE m hm ops dN fuel _ _ _ (by simp[hs]) ?_ ?_ (bL.2 ⟨Wp,hn⟩) ez ?_
  ·intro k hk;by_cases e:k=i
   ·subst e;simp[Array.getD,hs,hi]
   ·have h2:(listed.setIfInBounds i true).getD k false=listed.getD k false:=by
     simp[Array.getD,hs,hk,Ne.symm e]
    rw[h2,hl k hk];simp[e]
  ·intro k hk;rcases aK.1 hk with rfl|hk
   ·exact hi
   ·exact hr k hk
  ·intro p j s hp o' NB d hd;rw[List.reverse_cons]at hp;rcases List.eq_nil_or_concat s with rfl|⟨s',x,rfl⟩
   ·have h2:=List.append_inj' hp rfl;have hij:i=j:=by simpa using h2.2
    subst hij;rw[<-h2.1,List.mem_reverse];rw[ho]at NB;cases NB
    obtain⟨e,he,rfl⟩:=aB.1 hd;obtain⟨E6,fX⟩:=aF.1 he;rw[Array.all_eq_true']at cU;have h3:=cU e (Array.mem_toList_iff.1 E6);have hb:Region.binds m e=true:=by
     unfold Edge.always at fX;unfold Region.binds;cases hg:e.ground<;>simp_all
    simp[hb]at h3;exact(hl _ (by have :=dN i o ho e.on (aB.2 ⟨e,aF.2 ⟨E6,fX⟩,rfl⟩);omega)).1 (by rw[Array.getD_eq_getD_getElem?];exact h3)
   ·have :acc.reverse++[i]=(p++j::s')++[x]:=by simpa[List.concat_eq_append]using hp
    have h2:=List.append_inj' this rfl;exact hv p j s' h2.1 o' NB d hd
theorem np(mixed:Bool)(wM:mixed=true)(ops:Array Oper)(t:Nat)(dN:∀(i:Nat) (o:Oper),ops[i]? =some o->∀d∈tP o,d<i):
 Valid ops (Region.schedule mixed ops t):=by
 have :Valid ops (Region.linearise .any ops t):=by
  unfold Region.linearise;refine nE _ rfl ops dN _ _ _ _ ai ?_ ai List.nodup_nil ai ?_
  ·intro i hi;simp[Array.getD,hi]
  ·intro p i s h;simp at h
 unfold Region.schedule;rw[wM,Bool.true_or,if_pos rfl];exact this
inductive Kd|pure|read|same|ef|write
 deriving DecidableEq
def Kd.o0:Kd->Bool| .pure| .read| .same=>true|_=>false
def Ext (w w':World):Prop:=w.heap.size<=w'.heap.size/\∀k,k<w.heap.size->w'.heap[k]? =w.heap[k]?
theorem Ext.refl(w:World):Ext w w:=⟨aP _,fun _ _=>rfl⟩
theorem Ext.trans{a b c:World}(h:Ext a b)(k:Ext b c):Ext a c:=⟨Nat.le_trans h.1 k.1,fun i hi=>(k.2 i (Nat.lt_of_lt_of_le hi h.1)).trans (h.2 i hi)⟩
theorem Ext.bU{w w':World}(h:Below w.heap.size w w'):Ext w w':=⟨h.size,h.block⟩
theorem Ext.cell{w w':World}(h:Ext w w'){a:Addr}{v:Value}(hc:w.cell? a=some v):w'.cell? a=some v:=by
 have hb:a.block<w.heap.size:=by
  unfold World.cell? at hc;split at hc
  ·rename_i e;exact(Array.getElem?_eq_some_iff.1 e).1
  ·simp at hc
 rw[<-hc];exact World.cell?_of_block (h.2 _ hb)
def stays (k:Kd) (w w':World):Prop:=match k with| .pure=>True| .read=>Ext w w'|_=>w'=w
def LC (P:Program) (m:Sem Next) (v:Value) (w:World):Prop:=
 m.run P w=.ok (.value v) w\/∃f args,m.run P w=.ok (.enter f args) w/\Calls P f args w fun e w'=>e=.returned v/\w'=w
def ja (P:Program) (ops:Array Oper) (Q:Exit->Act->World->Prop):List (Kd×Oper)->Act->World->Prop
 |[],a,w=>Q .normal a w
 |(k,o)::rest,a,w=>
  if Region.wanted o (yielded ops a.tmps)then
   match k with
   | .ef=>o.wp P a w (fun a' w'=>Ext w w'/\ja P ops Q rest a' w') (fun _ _ _=>False)
   | .write=>o.wp P a w (fun a' w'=>ja P ops Q rest a' w') (fun _ _ _=>False)
   |k=> ∃v,(∀w',stays k w w'->LC P (execOp a.eval o) v w')/\ja P ops Q rest (a.put o.dst v) w
  else ja P ops Q rest (a.put o.dst undef) w
def N0:Operand->List Nat| .tmp t=>[t]|_=>[]
def jV (ops:Array Oper) (o:Oper):List Nat:=
 o.op.operands.toList.flatMap N0++(match o.guard with|some (j,_)=>((ops[j]?).bind (·.dst)).toList|none=>[])
theorem eval_put{a:Act}{d:Option Tmp}{v:Value}{x:Operand}(h:∀t,d=some t->t∉N0 x):(a.put d v).eval x=a.eval x:=by
 cases d with
 |none=>rfl
 |some t=>
  cases x with
  |tmp u=>
   have :t≠u:=by have :=h t rfl;simpa[N0]using this
   simp[Act.put,Act.eval,Array.getD_eq_getD_getElem?,this]
  |_=>rfl
def mC:Op->Bool| .select .. | .defer _| .go _=>false|_=>true
theorem execOp_congr{ρ ρ':Operand->Value}{o:Oper}(hp:mC o.op=true)(h:∀x∈o.op.operands.toList,ρ x=ρ' x):execOp ρ o=execOp ρ' o:=by
 have VW:∀(xs:Array Operand),(∀x∈xs.toList,ρ x=ρ' x)->xs.map ρ=xs.map ρ':=fun xs hx=>
  Array.map_congr_left fun x hx'=>hx x (Array.mem_toList_iff.2 hx')
 have Z7:∀(ps:Array (Nat×Operand)),(∀x∈ps.toList.map (·.2),ρ x=ρ' x)->ps.map (fun(i,x)=>(i,ρ x))=ps.map (fun(i,x)=>(i,ρ' x)):=fun ps hx=>
  Array.map_congr_left fun p hp=>by
   have :=hx p.2 (aB.2 ⟨p,Array.mem_toList_iff.2 hp,rfl⟩);simp[this]
 have Sr:∀(x:Option Operand),(∀y,x=some y->ρ y=ρ' y)->x.map ρ=x.map ρ':=fun x hx=>by
  cases x with
  |none=>rfl
  |some y=>simp[hx y rfl]
 have P3:∀(c:Call) (t:TypeId),(∀x∈c.operands.toList,ρ x=ρ' x)->resolve ρ c t=resolve ρ' c t:=fun c t hx=>by
  have ha:c.args.map ρ=c.args.map ρ':=VW _ fun x hx'=>hx x (by simp[Call.operands,Array.mem_toList_iff.1 hx'])
  unfold resolve;cases hc:c.callee with
  |value f=>simp only[ha];rw[hx f (by simp[Call.operands,hc])]
  |invoke r m=>simp only[ha];rw[hx r (by simp[Call.operands,hc])]
  |builtin b=>simp only[ha]
 rcases o with⟨dst,op,ty,pos,after,guard⟩
 unfold execOp;cases op with
 |build t ps=>simp only[Op.operands]at h ⊢;rw[Z7 ps (fun x hx=>h x (by simpa using hx))]
 |buildSlice t n ps=>simp only[Op.operands]at h ⊢;rw[Z7 ps (fun x hx=>h x (by simpa using hx))]
 |makeFunc f xs ys=>
  simp only[Op.operands,Array.toList_append,aO]at h ⊢;rw[VW xs (fun x hx=>h x (.inl hx)),VW ys (fun x hx=>h x (.inr hx))]
 |makeMap t r=>simp only[Op.operands]at h ⊢;rw[Sr r (fun y hy=>h y (by simp[hy]))]
 |slice t x l hi m=>
  simp only[Op.operands]at h ⊢;rw[h x ai,Sr l (fun y hy=>h y (by simp[hy])),Sr hi (fun y hy=>h y (by simp[hy])),Sr m (fun y hy=>h y (by simp[hy]))]
 |call c=>simp only[Op.operands]at h ⊢;rw[P3 c _ h]
 |go c=>simp only[Op.operands]at h ⊢;rw[P3 c _ h]
 |defer c=>simp only[Op.operands]at h ⊢;rw[P3 c _ h]
 |select cs bl=>simp[mC]at hp
 |alloc=>rfl
 |ready=>rfl
 |waits=>rfl
 |_=>simp[Op.operands]at h ⊢ <;>simp[h]
theorem put_comm{a:Act}{d e:Option Tmp}{v u:Value}(h:∀x,d=some x->e≠some x):(a.put d v).put e u=(a.put e u).put d v:=by
 cases d with
 |none=>rfl
 |some x=>
  cases e with
  |none=>rfl
  |some y=>
   have oo:x≠y:=fun e=>h x rfl (by rw[e])
   simp only[Act.put];rw[Array.setIfInBounds_comm _ _ oo]
theorem wanted_put{ops:Array Oper}{o:Oper}{tm:Array Value}{d:Option Tmp}{v:Value}{df:List Deferred}(h:∀t,d=some t->t∉jV ops o):
 Region.wanted o (yielded ops (({tmps:=tm,defers:=df}:Act).put d v).tmps)=Region.wanted o (yielded ops tm):=by
 cases d with
 |none=>rfl
 |some t=>
  unfold Region.wanted;cases hg:o.guard with
  |none=>rfl
  |some g=>
   obtain⟨j,want⟩:=g;have ht:=h t rfl;simp only[jV,hg,aO,not_or]at ht;simp only[yielded,Act.put];cases hj:(ops[j]?).bind (·.dst)with
   |none=>rfl
   |some u=>
    have oo:t≠u:=by
     have :=ht.2;rw[hj]at this;simpa using this
    simp[oo]
theorem Aw{ops:Array Oper}{o:Oper}{a:Act}{d:Option Tmp}{v:Value}(hp:mC o.op=true)(h:∀t,d=some t->t∉jV ops o):
 execOp (a.put d v).eval o=execOp a.eval o:=by
 refine execOp_congr hp fun x hx=>eval_put fun t ht hm=>h t ht ?_
 simp only[jV,aO,List.mem_flatMap];exact .inl ⟨x,hx,hm⟩
structure acM (ops:Array Oper) (o o':Oper):Prop where
 r1:∀t,o.dst=some t->t∉jV ops o'
 r2:∀t,o'.dst=some t->t∉jV ops o
 w:∀t,o.dst=some t->o'.dst≠some t
theorem Ff{P:Program}{ops:Array Oper}{o:Oper}{a:Act}{w:World}{d:Option Tmp}{u:Value}{N N':Act->World->Prop}(hp:mC o.op=true)(h1:∀t,d=some t->t∉jV ops o)(h2:∀t,d=some t->o.dst≠some t)(hN:∀(x:Act) (v:Value) (w':World),x.tmps=a.tmps->N ((x.put o.dst v).put d u) w'->N' (x.put o.dst v) w')(h:o.wp P (a.put d u) w N (fun _ _ _=>False)):
 o.wp P a w N' (fun _ _ _=>False):=by
 have hc:∀v,(a.put d u).put o.dst v=(a.put o.dst v).put d u:=fun v=>put_comm h2
 unfold Oper.wp at h ⊢;rw[Aw hp h1]at h;cases hr:(execOp a.eval o).run P w with
 |halt hh w'=>rw[hr]at h;cases hh<;>exact h
 |ok n w'=>
  rw[hr]at h;cases n with
  |value v=>simp only[Oper.upon]at h ⊢;rw[hc]at h;exact hN a _ _ rfl h
  |skip=>simp only[Oper.upon]at h ⊢;rw[hc]at h;exact hN a _ _ rfl h
  |defer dd=>
   simp only[Oper.upon]at h ⊢;have e:({(a.put d u)with defers:=dd::(a.put d u).defers}:Act).put o.dst undef=(({a with defers:=dd::a.defers}:Act).put o.dst undef).put d u:=by
    rw[<-put_comm h2];cases d<;>rfl
   rw[e]at h;exact hN {a with defers:=dd::a.defers} _ _ rfl h
  |enter f args=>
   simp only[Oper.upon]at h ⊢;refine h.mono fun e uf hh=>?_
   cases e with
   |returned v=>simp only at hh ⊢;rw[hc]at hh;exact hN a _ _ rfl hh
   |panicked c=>exact hh
   |outgrown=>obtain⟨_,_,hx⟩:=hh;exact hx.elim
  |row r args=>
   simp only[Oper.upon]at h ⊢;refine h.mono fun v uf hh=>?_
   rw[hc]at hh;exact hN a _ _ rfl hh
  |_=>exact h
section
variable {P:Program} {ops:Array Oper} {Q:Exit->Act->World->Prop} {rest:List (Kd×Oper)} {k:Kd} {o:Oper} {a:Act} {w:World}
theorem q4(hw:Region.wanted o (yielded ops a.tmps)=false):ja P ops Q ((k,o)::rest) a w=ja P ops Q rest (a.put o.dst undef) w:=by
 cases k<;>simp[ja,hw]
theorem ek(hk:k.o0=true)(hw:Region.wanted o (yielded ops a.tmps)=true):ja P ops Q ((k,o)::rest) a w=
 ∃v,(∀w',stays k w w'->LC P (execOp a.eval o) v w')/\ja P ops Q rest (a.put o.dst v) w:=by
 cases k<;>first|(simp[Kd.o0]at hk;done)|simp[ja,hw]
theorem hU(hw:Region.wanted o (yielded ops a.tmps)=true):ja P ops Q ((.ef,o)::rest) a w=
 o.wp P a w (fun a' w'=>Ext w w'/\ja P ops Q rest a' w') (fun _ _ _=>False):=by simp[ja,hw]
theorem eJ(hw:Region.wanted o (yielded ops a.tmps)=true):ja P ops Q ((.write,o)::rest) a w=
 o.wp P a w (fun a' w'=>ja P ops Q rest a' w') (fun _ _ _=>False):=by simp[ja,hw]
end
def JD (k k':Kd):Prop:=k'.o0=true\/k=.pure\/(k=.read/\k'=.ef)
theorem replay{P:Program}{ops:Array Oper}{Q:Exit->Act->World->Prop}{rest:List (Kd×Oper)}{k:Kd}{o:Oper}(hk:k.o0=true)(hp:mC o.op=true){a x:Act}{w w':World}{d:Option Tmp}{u v:Value}(hx:x.tmps=a.tmps)(hr:∀t,d=some t->t∉jV ops o)(hw:Region.wanted o (yielded ops a.tmps)=true)(hv:∀uf,stays k w uf->LC P (execOp a.eval o) v uf)(hs:∀uf,stays k w' uf->stays k w uf)(h:ja P ops Q rest ((x.put d u).put o.dst v) w'):ja P ops Q ((k,o)::rest) (x.put d u) w':=by
 have hw':Region.wanted o (yielded ops (x.put d u).tmps)=true:=by
  obtain⟨tm,df⟩:=x;rw[wanted_put hr];rw[show tm=a.tmps from hx];exact hw
 have he:execOp (x.put d u).eval o=execOp a.eval o:=by
  rw[Aw hp hr];exact execOp_congr hp fun y _=>by cases y<;>simp[Act.eval,hx]
 have :∃v,(∀uf,stays k w' uf->LC P (execOp (x.put d u).eval o) v uf)/\ja P ops Q rest ((x.put d u).put o.dst v) w':=
  ⟨v,fun uf aM=>by rw[he];exact hv uf (hs uf aM),h⟩
 rw[ek hk hw'];exact this
theorem IN{P:Program}{ops:Array Oper}{Q:Exit->Act->World->Prop}{rest:List (Kd×Oper)}{k:Kd}{o:Oper}{a x:Act}{w':World}{d:Option Tmp}{u:Value}(hx:x.tmps=a.tmps)(hr:∀t,d=some t->t∉jV ops o)(hw:Region.wanted o (yielded ops a.tmps)=false)(h:ja P ops Q rest ((x.put d u).put o.dst undef) w'):ja P ops Q ((k,o)::rest) (x.put d u) w':=by
 have hw':Region.wanted o (yielded ops (x.put d u).tmps)=false:=by
  obtain⟨tm,df⟩:=x;rw[wanted_put hr];rw[show tm=a.tmps from hx];exact hw
 rw[q4 hw'];exact h
theorem swap{P:Program}{ops:Array Oper}{Q:Exit->Act->World->Prop}{rest:List (Kd×Oper)}{k k':Kd}{o o':Oper}(hk:k.o0=true)(hc:JD k k')(hp:mC o.op=true)(vM:mC o'.op=true)(hf:acM ops o o'){a:Act}{w:World}(h:ja P ops Q ((k,o)::(k',o')::rest) a w):ja P ops Q ((k',o')::(k,o)::rest) a w:=by
 have key:∃u,ja P ops Q ((k',o')::rest) (a.put o.dst u) w/\
  ∀(x:Act) (v:Value) (w':World),x.tmps=a.tmps->(∀uf,stays k w' uf->stays k w uf)->ja P ops Q rest ((x.put o'.dst v).put o.dst u) w'->ja P ops Q ((k,o)::rest) (x.put o'.dst v) w':=by
  cases hw:Region.wanted o (yielded ops a.tmps)with
  |false=>
   rw[q4 hw]at h;exact⟨undef,h,fun x v w' hx _ hr=>IN hx hf.r2 hw hr⟩
  |true=>
   rw[ek hk hw]at h;obtain⟨v,hv,hr⟩:=h;exact⟨v,hr,fun x u w' hx hs hr=>replay hk hp hx hf.r2 hw hv hs hr⟩
 obtain⟨u,hi,hre⟩:=key;have hw':Region.wanted o' (yielded ops (a.put o.dst u).tmps)=Region.wanted o' (yielded ops a.tmps):=by
  obtain⟨tm,df⟩:=a;exact wanted_put hf.r1
 have Da:execOp (a.put o.dst u).eval o'=execOp a.eval o':=Aw vM hf.r1;have sL:∀uf,stays k w uf->stays k w uf:=fun _ x=>x
 have UN:∀v,(a.put o.dst u).put o'.dst v=(a.put o'.dst v).put o.dst u:=fun v=>put_comm hf.w
 cases YK:Region.wanted o' (yielded ops a.tmps)with
 |false=>
  rw[q4 (by rw[hw',YK]),UN]at hi;rw[q4 YK];exact hre a undef w rfl sL hi
 |true=>
  have V_:Region.wanted o' (yielded ops (a.put o.dst u).tmps)=true:=by rw[hw',YK]
  by_cases hl':k'.o0=true
  ·rw[ek hl' V_]at hi;rw[ek hl' YK];obtain⟨v,hv,hr⟩:=hi;rw[UN]at hr;exact⟨v,fun uf hs=>by rw[<-Da];exact hv uf hs,hre a v w rfl sL hr⟩
  ·cases k' with
   |ef=>
    rw[hU V_]at hi;rw[hU YK];refine Ff vM hf.r1 hf.w (fun x v w' hx hN=>⟨hN.1,hre x v w' hx (fun uf hs=>?_) hN.2⟩) hi;rcases hc with hc|rfl|⟨rfl,_⟩
    ·exact absurd hc hl'
    ·trivial
    ·exact hN.1.trans hs
   |write=>
    rw[eJ V_]at hi;rw[eJ YK];refine Ff vM hf.r1 hf.w (fun x v w' hx hN=>hre x v w' hx (fun uf hs=>?_) hN) hi;rcases hc with hc|rfl|⟨_,hc⟩
    ·exact absurd hc hl'
    ·trivial
    ·simp at hc
   |_=>exact absurd rfl hl'
variable {P:Program} {ops:Array Oper} {Q:Exit->Act->World->Prop}
theorem jB{o:Oper}{a:Act}{w:World}{N N':Act->World->Prop}(hN:∀a w,N a w->N' a w)(h:o.wp P a w N (fun _ _ _=>False)):o.wp P a w N' Q:=by
 unfold Oper.wp at h ⊢;cases hr:(execOp a.eval o).run P w with
 |halt hh w'=>rw[hr]at h;cases hh<;>exact h.elim
 |ok n w'=>
  rw[hr]at h;cases n with
  |value v=>exact hN _ _ h
  |skip=>exact hN _ _ h
  |defer dd=>exact hN _ _ h
  |enter f args=>
   simp only[Oper.upon]at h ⊢;refine h.mono fun e uf hh=>?_
   cases e with
   |returned v=>exact hN _ _ hh
   |panicked c=>exact hh.elim
   |outgrown=>obtain⟨_,_,hx⟩:=hh;exact hx.elim
  |row r args=>
   simp only[Oper.upon]at h ⊢;exact h.mono fun v uf hh=>hN _ _ hh
  |_=>exact h.elim
theorem NT{x:Kd×Oper}{L L':List (Kd×Oper)}(hL:∀a w,ja P ops Q L a w->ja P ops Q L' a w){a:Act}{w:World}(h:ja P ops Q (x::L) a w):ja P ops Q (x::L') a w:=by
 obtain⟨k,o⟩:=x;cases hw:Region.wanted o (yielded ops a.tmps)with
 |false=>rw[q4 hw]at h ⊢;exact hL _ _ h
 |true=>
  by_cases hl:k.o0=true
  ·rw[ek hl hw]at h ⊢;obtain⟨v,hv,hr⟩:=h;exact⟨v,hv,hL _ _ hr⟩
  ·cases k with
   |ef=>rw[hU hw]at h ⊢;exact jB (fun a w hh=>⟨hh.1,hL _ _ hh.2⟩) h
   |write=>rw[eJ hw]at h ⊢;exact jB (fun a w hh=>hL _ _ hh) h
   |_=>exact absurd rfl hl
def PK (ops:Array Oper) (o o':Oper):Bool:=
 (match o.dst with|some t=> !(jV ops o').contains t&& !(match o'.dst with|some u=>t==u|none=>false)|none=>true)&&
 (match o'.dst with|some t=> !(jV ops o).contains t|none=>true)
theorem Tj{o o':Oper}(h:PK ops o o'=true):acM ops o o':=by
 unfold PK at h;rw[bm]at h;obtain⟨h1,h2⟩:=h;refine⟨fun t ht=>?_,fun t ht=>?_,fun t ht hd=>?_⟩
 ·rw[ht]at h1;simp only[bm,Bool.not_eq_true']at h1;intro hc;have :=List.contains_iff_mem.2 hc;rw[this]at h1;simp at h1
 ·rw[ht]at h2;simp only[Bool.not_eq_true']at h2;intro hc;have :=List.contains_iff_mem.2 hc;rw[this]at h2;simp at h2
 ·rw[ht,hd]at h1;simp at h1
def EC (k k':Kd):Bool:=match k,k' with
 |_,.pure=>true|_,.read=>true|_,.same=>true
 | .pure,_=>true| .read,.ef=>true|_,_=>false
theorem M0{k k':Kd}(h:EC k k'=true):JD k k':=by
 cases k<;>cases k'<;>simp_all [EC,JD,Kd.o0]
def item (ops:Array Oper) (ks:List Kd) (i:Nat):Kd×Oper:=(ks.getD i .write,ops.toList.getD i default)
def jH (ops:Array Oper) (ks:List Kd) (x i:Nat):Bool:=
 (item ops ks x).1.o0&&(EC (item ops ks x).1 (item ops ks i).1&&(PK ops (item ops ks x).2 (item ops ks i).2&&(mC (item ops ks x).2.op&&mC (item ops ks i).2.op)))
theorem JH{ks:List Kd}{i:Nat}{post:List Nat}:∀(pre:List Nat),(∀x∈pre,jH ops ks x i=true)->∀a w,
 ja P ops Q ((pre++i::post).map (item ops ks)) a w->ja P ops Q ((i::(pre++post)).map (item ops ks)) a w
 |[],_,a,w,h=>h
 |x::pre,hp,a,w,h=>by
  have h1:ja P ops Q ((x::i::(pre++post)).map (item ops ks)) a w:=by
   refine NT (fun a w hh=>JH pre (fun y hy=>hp y (List.mem_cons_of_mem _ hy)) a w hh) h
  have hx:=hp x List.mem_cons_self;simp only[jH,bm]at hx;obtain⟨e1,e2,e3,e4,e5⟩:=hx;exact swap e1 (M0 e2) e4 e5 (Tj e3) h1
def Ja:List Nat->List Nat->List Nat
 |[],acc=>acc
 |x::l,acc=>Ja l (if acc.contains x then acc else x::acc)
def KS:List Oper->List (List Nat)->List (List Nat)
 |[],acc=>acc
 |o::l,acc=>KS l (acc++[Ja ((Ja (tP o) []).flatMap fun d=>d::acc.getD d []) []])
def vG (ops:Array Oper) (vN:List (List Nat)):Bool:=
 (List.range ops.size).all fun i=>(vN.getD i []).all fun x=>(tP (ops.toList.getD i default)).any fun d=>d==x||(vN.getD d []).contains x
def ik (ops:Array Oper):Bool:=(List.range ops.size).all fun i=>(tP (ops.toList.getD i default)).all fun d=>Nat.blt d i
theorem sg{vN:List (List Nat)}(hb:ik ops=true)(ha:vG ops vN=true){l:List Nat}(hv:Valid ops l):
 ∀n i,i<=n->i<ops.size->∀p s,l=p++i::s->∀x∈vN.getD i [],x∈p:=by
 have get:∀i (h:i<ops.size),ops[i]? =some (ops.toList.getD i default):=fun i h=>by simp[h]
 intro n
 induction n with
 |zero=>
  intro i yM hi p s hl x hx;unfold vG at ha;have h1:=aL.1 (aL.1 ha i (cE.2 hi)) x hx;obtain⟨d,hd,_⟩:=List.any_eq_true.1 h1;unfold ik at hb;have h2:=aL.1 (aL.1 hb i (cE.2 hi)) d hd;simp[Nat.blt_eq]at h2;omega
 |succ n ih=>
  intro i yM hi p s hl x hx;unfold vG at ha;have h1:=aL.1 (aL.1 ha i (cE.2 hi)) x hx;obtain⟨d,hd,Za⟩:=List.any_eq_true.1 h1;have Q_:=hv.2.2 p i s hl _ (get i hi) d hd;have hdi:d<i:=by
   unfold ik at hb;have h2:=aL.1 (aL.1 hb i (cE.2 hi)) d hd;simpa[Nat.blt_eq]using h2
  rw[Bool.or_eq_true]at Za;rcases Za with Za|Za
  ·have :d=x:=by simpa using Za
   exact this ▸Q_
  ·obtain⟨p1,p2,rfl⟩:=List.append_of_mem Q_;have :=ih d ae ae p1 (p2++i::s) Ro x (List.contains_iff_mem.1 Za);exact aO.2 (.inl this)
def lr (f:Nat->Nat->Bool):List Nat->Bool
 |[]=>true
 |x::l=>l.all (f x)&&lr f l
theorem oE{f:Nat->Nat->Bool}{i:Nat}{post:List Nat}:∀(pre:List Nat),lr f (pre++i::post)=true->(∀x∈pre,f x i=true)/\lr f (pre++post)=true/\(∀y∈post,f i y=true)
 |[],h=>by simp only[List.nil_append,lr,bm]at h;exact⟨fun _ hx=>(by cases hx),h.2,fun y hy=>aL.1 h.1 y hy⟩
 |x::pre,h=>by
  simp only[bz,lr,bm]at h;obtain⟨h1,h2,h3⟩:=oE pre h.2;refine⟨fun y hy=>?_,?_,h3⟩
  ·rcases aK.1 hy with rfl|hy
   ·exact aL.1 h.1 i ai
   ·exact h1 y hy
  ·simp only[bz,lr,bm];refine⟨aL.2 fun y hy=>aL.1 h.1 y ?_,h2⟩;rcases aO.1 hy with hy|hy
   ·simp[hy]
   ·simp[hy]
def YE (ops:Array Oper) (ks:List Kd) (ord:List Nat):Bool:=
 let vN:=KS ops.toList []
 ik ops&&(vG ops vN&&((List.range ops.size).all (fun i=>ord.contains i)&&(ord.all (fun i=>Nat.blt i ops.size)&&
  lr (fun x i=> !(x==i)&&((vN.getD i []).contains x||jH ops ks x i)) ord)))
theorem wA{ks:List Kd}{vN:List (List Nat)}(hb:ik ops=true)(ha:vG ops vN=true){l:List Nat}(hv:Valid ops l):
 ∀(s p rem:List Nat),l=p++s->(∀x,x∈rem↔x∈s)->
  lr (fun x i=> !(x==i)&&((vN.getD i []).contains x||jH ops ks x i)) rem=true->
  ∀a w,ja P ops Q (rem.map (item ops ks)) a w->wpOps P ops Q s a w
 |[],p,rem,hl,hm,hp,a,w,h=>by
  have :rem=[]:=List.eq_nil_iff_forall_not_mem.2 fun x hx=>by simpa using(hm x).1 hx
  subst this;exact h
 |i::s,p,rem,hl,hm,hp,a,w,h=>by
  have hi:i<ops.size:=(hv.2.1 i).1 Ro;have C_:=hv.1;rw[hl]at C_;have YU:∀x∈i::s,x∉p:=fun x hx SG=>(List.nodup_append.1 C_).2.2 x SG x hx rfl
  have BI:i∉s:=(bL.1 (List.nodup_append.1 C_).2.1).1;obtain⟨pre,post,rfl⟩:=List.append_of_mem ((hm i).2 List.mem_cons_self);obtain⟨h1,h2,h3⟩:=oE pre hp;have Wk:∀x∈pre,jH ops ks x i=true:=fun x hx=>by
   have hf:=h1 x hx;simp only[bm,Bool.or_eq_true]at hf;rcases hf.2 with hc|hc
   ·have SG:=sg hb ha hv i i (aP _) hi p s hl x (List.contains_iff_mem.1 hc);exact absurd SG (YU x ((hm x).1 vP))
   ·exact hc
  have nI:=JH pre Wk a w h;have Il:∀x,x∈pre++post↔x∈s:=fun x=>by
   have hx:=hm x;constructor
   ·intro hxx;have Ij:x∈pre++i::post:=by
     rcases aO.1 hxx with e|e<;>simp[e]
    rcases aK.1 (hx.1 Ij)with rfl|e
    ·exfalso;rcases aO.1 hxx with e|e
     ·have :=h1 x e;simp at this
     ·have :=h3 x e;simp at this
    ·exact e
   ·intro tG;have :=hx.2 (List.mem_cons_of_mem _ tG);rcases aO.1 this with e|e
    ·simp[e]
    ·rcases aK.1 e with rfl|e
     ·exact absurd tG BI
     ·simp[e]
  have IH:=wA hb ha hv s (p++[i]) (pre++post) Ro Il h2;have wO:ops[i]? =some (item ops ks i).2:=by simp[item,hi]
  simp only[aJ]at nI;simp only[wpOps,wO];cases hw:Region.wanted (item ops ks i).2 (yielded ops a.tmps)with
  |false=>
   simp only[Bool.false_eq_true,if_false];rw[show item ops ks i=((item ops ks i).1,(item ops ks i).2)from rfl,q4 hw]at nI;exact IH _ _ nI
  |true=>
   simp only[if_true];left;rw[show item ops ks i=((item ops ks i).1,(item ops ks i).2)from rfl]at nI;by_cases dN:(item ops ks i).1.o0=true
   ·rw[ek dN hw]at nI;obtain⟨v,tH,hr⟩:=nI;have gP:stays (item ops ks i).1 w w:=by
     cases(item ops ks i).1<;>first|trivial|exact Ext.refl w|rfl
    unfold Oper.wp;rcases tH w gP with hg|⟨f,args,hg,fI⟩
    ·rw[hg];exact IH _ _ hr
    ·rw[hg];refine fI.mono ?_;rintro e w' ⟨rfl,rfl⟩;exact IH _ _ hr
   ·generalize hk:(item ops ks i).1=k at nI dN;cases k with
    |ef=>rw[hU hw]at nI;exact jB (fun a w hh=>IH _ _ hh.2) nI
    |write=>rw[eJ hw]at nI;exact jB (fun a w hh=>IH _ _ hh) nI
    |_=>exact absurd rfl dN
theorem fa{id:Nat}{a:Act}{w:World}(ks:List Kd)(ord:List Nat)(wM:P.follows .mixedOrders=true)(qM:YE ops ks ord=true)(h:ja P ops Q (ord.map (item ops ks)) a w.drew):(Code.region id ops true).wp P Q a w:=by
 simp only[YE,bm]at qM;obtain⟨hb,ha,cU,dN,hp⟩:=qM;refine wp_region_draw fun t=>?_
 have hv:Valid ops (Region.schedule (P.follows .mixedOrders) ops t):=np _ wM _ _ fun i o ho d hd=>by
  have hi:i<ops.size:=(Array.getElem?_eq_some_iff.1 ho).1
  have h1:=aL.1 (aL.1 hb i (cE.2 hi)) d (by
   have :ops.toList.getD i default=o:=by
    simp[Array.getElem?_eq_getElem hi]at ho ⊢;simp[ho]
   rw[this];exact hd)
  simpa[Nat.blt_eq]using h1
 generalize Region.schedule (P.follows .mixedOrders) ops t=l at hv ⊢;refine wA hb ha hv l [] ord rfl (fun x=>?_) hp a _ h;rw[hv.2.1 x];constructor
 ·intro hx;simpa[Nat.blt_eq]using aL.1 dN x hx
 ·intro hx;exact List.contains_iff_mem.1 (aL.1 cU x (cE.2 hx))
end WB
namespace WB
open Go Go.RowKit
section
variable {P:Program} {ops:Array Oper} {Q:Exit->Act->World->Prop} {rest:List (Kd×Oper)} {k:Kd} {o:Oper} {a a':Act} {w:World} {v:Value}
theorem pK(h:Q .normal a w):ja P ops Q [] a w:=h
theorem fN(hw:Region.wanted o (yielded ops a.tmps)=true)(hv:∀w',(execOp a.eval o).run P w'=.ok (.value v) w')(hp:a.put o.dst v=a')(h:ja P ops Q rest a' w):ja P ops Q ((.pure,o)::rest) a w:=by
 rw[ek rfl hw];exact⟨v,fun w' _=>.inl (hv w'),by rw[hp];exact h⟩
end
def cz (w:World) (ad:Addr) (cs:List Value):Prop:= ∀j c,cs[j]? =some c->w.cell? (ad.add j)=some c
theorem cz.ext{w w':World}{ad:Addr}{cs:List Value}(h:cz w ad cs)(e:Ext w w'):cz w' ad cs:=fun j c hj=>e.cell (h j c hj)
theorem pS{P:Program}{w:World}{T:TypeId}{ad:Addr}{cs:List Value}(hT:(isAgg T).run P w=.ok true w)(hn:(Go.sizeOf T).run P w=.ok cs.length w)(hc:cz w ad cs):(loadVar T ad).run P w=.ok (.agg cs.toArray) w:=by
 simp[loadVar,hT,hn,run_loadCells_list (P:=P) (w:=w) ad cs hc]
theorem gp{P:Program}{w:World}{T:TypeId}{ad:Addr}{c:Value}(hT:(isAgg T).run P w=.ok false w)(hc:w.cell? ad=some c):(loadVar T ad).run P w=.ok c w:=by
 simp[loadVar,hT,hc]
section
variable {P:Program} {ops:Array Oper} {Q:Exit->Act->World->Prop} {rest:List (Kd×Oper)} {a a':Act} {w:World} {v:Value} {d:Option Tmp} {T ty:TypeId} {x:Operand} {pos:String} {after:Array Edge} {g:Option (Nat×Bool)} {ad:Addr}
theorem yq(hw:Region.wanted ⟨d,.load T x,ty,pos,after,g⟩ (yielded ops a.tmps)=true)(ha:a.eval x=.pointer (some ad))(hT:∀w,(isAgg T).run P w=.ok false w)(hc:w.cell? ad=some v)(hp:a.put d v=a')(h:ja P ops Q rest a' w):ja P ops Q ((.read,⟨d,.load T x,ty,pos,after,g⟩)::rest) a w:=by
 rw[ek rfl hw];refine⟨v,fun w' (e:Ext w w')=>?_,by rw[hp];exact h⟩;refine .inl ?_;simp[execOp,ha,Instr.loadAt,Instr.sureAddr,gp (hT w') (e.cell hc)]
theorem Kn{cs:List Value}(hw:Region.wanted ⟨d,.load T x,ty,pos,after,g⟩ (yielded ops a.tmps)=true)(ha:a.eval x=.pointer (some ad))(hT:∀w,(isAgg T).run P w=.ok true w)(hn:∀w,(Go.sizeOf T).run P w=.ok cs.length w)(hc:cz w ad cs)(hp:a.put d (.agg cs.toArray)=a')(h:ja P ops Q rest a' w):
 ja P ops Q ((.read,⟨d,.load T x,ty,pos,after,g⟩)::rest) a w:=by
 rw[ek rfl hw];refine⟨_,fun w' (e:Ext w w')=>?_,by rw[hp];exact h⟩;refine .inl ?_;simp[execOp,ha,Instr.loadAt,Instr.sureAddr,pS (hT w') (hn w') (hc.ext e)]
end
def lE (e:TypeId) (size:Nat) (v:Value) (n:Nat) (xs:List Value):HP:=fun h=>
 xs.length=n *size/\((v=.slice none 0 0/\n=0/\emp h)\/
  ∃g cap cur,v=.slice (some ⟨g,0,none⟩) n cap/\n<=cap/\cap<=maxLen/\cur.size=cap *size/\cur.toList.take (n *size)=xs/\bA g (.cells cur e (0,0)) h)
theorem MV{w0 w:World}{L:List HP}{A:HP}{p:Prop}(h:St w0 (A::L) w)(f:∀x,A x->p):p:=by
 obtain⟨x,hx,h1,h2,d,e,a,b⟩:=h.own;exact f _ a
namespace St
variable {w0 w w':World} {L:List HP} {e:TypeId} {size:Nat} {v v':Value} {n n':Nat} {xs xs':List Value}
theorem cC(h:St w0 (lE e size v n xs::L) w):
 (v=.slice none 0 0/\n=0/\xs=[]/\St w0 L w)\/
 ∃g cap cur,v=.slice (some ⟨g,0,none⟩) n cap/\n<=cap/\cap<=maxLen/\cur.size=cap *size/\cur.toList.take (n *size)=xs/\xs.length=n *size/\St w0 (bA g (.cells cur e (0,0))::L) w:=by
 obtain⟨x,hx,h1,h2,d,e',⟨hl,a⟩,b⟩:=h.own;rcases a with⟨rfl,rfl,he⟩|⟨g,cap,cur,rfl,a1,a2,a3,a4,a5⟩
 ·exact .inl ⟨rfl,rfl,List.eq_nil_of_length_eq_zero (by simpa using hl),h.drop⟩
 ·exact .inr ⟨g,cap,cur,rfl,a1,a2,a3,a4,hl,{h with own:=⟨x,hx,h1,h2,d,e',a5,b⟩}⟩
theorem D9(h:St w0 L w):St w0 (lE e size (.slice none 0 0) 0 []::L) w:=
 h.abz.imp fun _ he=>⟨by simp,.inl ⟨rfl,rfl,he⟩⟩
theorem nz{g cap:Nat}{cur:Array Value}(h:St w0 (bA g (.cells cur e (0,0))::L) w)(hn:n<=cap)(hc:cap<=maxLen)(hs:cur.size=cap *size)(ht:cur.toList.take (n *size)=xs):St w0 (lE e size (.slice (some ⟨g,0,none⟩) n cap) n xs::L) w:=
 h.imp fun _ hb=>⟨by rw[<-ht,bu,Array.length_toList,hs];exact Nat.min_eq_left (Nat.mul_le_mul_right _ hn),.inr ⟨g,cap,cur,rfl,hn,hc,hs,ht,hb⟩⟩
theorem yD(h:St w0 (lE e size v n xs::L) w):xs.length=n *size:=MV h fun _ hx=>hx.1
theorem zN(h:St w0 (lE e size v n xs::L) w):w.ownsRow w0.heap.size e size v n xs:=by
 refine⟨h.yD,?_⟩;rcases h.cC with⟨rfl,rfl,rfl,_⟩|⟨g,cap,cur,rfl,h1,h2,h3,h4,h5,h6⟩
 ·exact .inl ⟨rfl,rfl⟩
 ·exact .inr ⟨g,cap,cur,rfl,h6.look.1,h6.look.2,h1,h2,h3,h4⟩
theorem setRow{b:Nat}{c c':Array Value}{T:TypeId}{fz:Nat×Nat}(h:St w0 (bA b (.cells c T fz)::L) w):
 St w0 (bA b (.cells c' T fz)::L) (w.setRow b c'):=
 h.upd rfl rfl rfl ai (setRow_heap w b c c' T fz h.look.2) fun k hk=>setRow_other w b k c' hk
theorem aA(h:St w0 L w)(hb:Below w.heap.size w w'):St w0 L w':=by
 refine⟨hb.os.trans h.os,hb.tape.trans h.tape,hb.output.trans h.output,Nat.le_trans h.size hb.size,fun k hk=>?_,?_⟩
 ·rw[hb.block k (Nat.lt_of_lt_of_le hk h.size)];exact h.block k hk
 ·obtain⟨x,hx,c⟩:=h.own;refine⟨x,fun k o hk=>?_,c⟩;have :=hx k o hk;exact⟨this.1,by rw[hb.block k (Array.getElem?_eq_some_iff.1 this.2).1];exact this.2⟩
end St
theorem sf{P:Program}{w0 w:World}{L:List HP}(t ty e:TypeId)(i:TypeInfo)(z:Value)(size bytes:Nat)(ht:P.underlying t=some (.slice e))(hi:P.info? e=some i)(hz:i.zero=some z)(aav:i.size=size)(hby:i.bytes=bytes)(SF:z.cells.size=size){v:Value}{n:Nat}{xs:List Value}(h:St w0 (lE e size v n xs::L) w)(a:Addr)(m c:Nat)(news:List Value)(hl:news.length=m *size)(rv:cz w a news)(h1:∀u∈news,u.oneCell'=true)(h63:n+m<=maxLen)(Py:(n+m)*bytes<=140737488355328):
 ∃v' w',(Builtin.append_ #[t,t] ty #[v,.slice (some a) m c]).run P w=.ok v' w'/\St w0 (lE e size v' (n+m) (xs++news)::L) w':=by
 subst aav;subst hby;have aeU:n+m<=9223372036854775807:=by simp only[maxLen]at h63;omega
 have vh:=h.yD;have fresh:∀(Ii:Nat),St w0 L w->St w0 (lE e i.size (.slice (some ⟨w.heap.size,0,none⟩) (n+m) (grownCap w (n+m) Ii e)) (n+m) (xs++news)::L)
  (w.drew.alloc (.cells (xs.toArray++news.toArray++Builtin.zeroCells z.cells (grownCap w (n+m) Ii e-(n+m))) e)):=by
  intro Ii hL;refine(hL.drew.alloc _).nz (grownCap_ge w (n+m) Ii e) (grownCap_le_maxLen w (n+m) Ii e h63) ?_ ?_
  ·have Ip:=grownCap_ge w (n+m) Ii e;simp only[Array.size_append,List.size_toArray,size_zeroCells,SF,vh,hl,<-Nat.add_mul];congr 1;omega
  ·simp only[Array.toList_append,aR];rw[<-aR,show(n+m)*i.size=(xs++news).length by rw[aW,vh,hl,Nat.add_mul]];exact List.take_left
 rcases h.cC with⟨rfl,rfl,rfl,hL⟩|⟨g,cap,cur,rfl,Ag,yO,kE,fH,_,jh⟩
 ·by_cases hm:m=0
  ·subst hm;obtain rfl:news=[]:=List.eq_nil_of_length_eq_zero (by simpa using hl);refine⟨.slice none 0 0,w,?_,hL.D9⟩;simp[Builtin.append_,run_underlying ht,Go.sizeOf,typeInfo,hi,Builtin.lenOf,Builtin.firstCells,loadCells,loadCellsFrom]
  ·have hr:=run_append_nil (P:=P) w t ty e i z ht hi hz a m c news hl rv ae ae (by have hb:=Py;simp only[Nat.zero_add]at hb;omega);have hf:=fresh 0 hL;simp only[Nat.zero_add,List.nil_append,Array.empty_append]at hf ⊢;exact⟨_,_,hr,hf⟩
 ·by_cases nG:n+m<=cap
  ·have o9:n *i.size+news.length<=cur.size:=by rw[hl,kE,<-Nat.add_mul];exact Nat.mul_le_mul_right _ nG
   have hr:=run_append_room (P:=P) w t ty e i ht hi g n cap cur jh.look.2 a m c news hl rv h1 nG o9;refine⟨_,_,hr,jh.setRow.nz nG yO ?_ ?_⟩
   ·simp only[List.size_toArray,aW,bu,bf,Array.length_toList];omega
   ·simp only[aR];rw[fH,<-aR,show(n+m)*i.size=(xs++news).length by rw[aW,vh,hl,Nat.add_mul]];exact List.take_left
  ·have holds:∀j u,xs[j]? =some u->w.cell? ((⟨g,0,none⟩:Addr).add j)=some u:=h.zN.cells (g:=g) rfl;have hr:=run_append_grow (P:=P) w t ty e i z ht hi hz ⟨g,0,none⟩ n cap xs vh holds a m c news hl rv ae ae (growslice_fits ae Py);exact⟨_,_,hr,fresh cap jh.drop⟩
section
variable {P:Program} {ops:Array Oper} {Q:Exit->Act->World->Prop} {rest:List Oper} {a:Act} {w w':World} {d:Option Tmp} {ty:TypeId} {pos:String} {after:Array Edge} {args:Array Operand} {argTypes:Array TypeId} {v:Value}
theorem Ru{o:Oper}(hw:Region.wanted o (yielded ops a.tmps)=true)(hr:(execOp a.eval o).run P w=.ok (.value v) w')(h:∀K:Act->World->Prop,(∀a w,wpList P ops Q rest a w->K a w)->K (a.put o.dst v) w'):wpList P ops Q (o::rest) a w:=by
 refine wpList_step fun K hK=>?_
 rw[if_pos hw,Oper.wp,hr];exact h K hK
end
end WB
namespace WB
open Go Go.RowKit
def fy (a b:aj):Int:=Lib.compareBytes a.data.toList b.data.toList
theorem flat_get{α β:Type}(f:α->List β)(sz:Nat)(hf:∀x,(f x).length=sz)(d:α):∀(l:List α) (i k:Nat),i<l.length->k<sz->(l.flatMap f)[i *sz+k]? =(f (l.getD i d))[k]?
 |[],i,k,h,_=>by simp at h
 |x::l,0,k,_,hk=>by
  simp only[bj,Nat.zero_mul,Nat.zero_add,List.getD_cons_zero];rw[List.getElem?_append_left (by rw[hf];exact hk)]
 |x::l,i+1,k,h,hk=>by
  simp only[bj,List.getD_cons_succ];rw[bp (by rw[hf,Nat.succ_mul];omega),hf,show(i+1)*sz+k-sz=i *sz+k by rw[Nat.succ_mul];omega];exact flat_get f sz hf d l i k Ic hk
theorem lJ{α β:Type}(f:α->List β)(sz:Nat)(hf:∀x,(f x).length=sz):∀(l:List α),(l.flatMap f).length=l.length *sz
 |[]=>by simp
 |x::l=>by simp only[bj,aW,List.length_cons,hf,lJ f sz hf l,Nat.succ_mul];omega
structure Nm where
 name:aj
 gK:aj
 bF:Int
instance:Inhabited Nm:=⟨⟨⟨#[]⟩,⟨#[]⟩,0⟩⟩
def Nm.cells (x:Nm):List Value:=[.string x.name,.string x.gK,.int .i64 x.bF]
def cg (l:List Nm):List Value:=l.flatMap Nm.cells
def eo (l:List Nm) (i:Nat):Nm:=l.getD i default
theorem xu(l:List Nm):(cg l).length=l.length *3:=lJ _ 3 (fun _=>rfl) l
theorem nA{w0 w:World}{L:List HP}{E:TypeId}{g cap n:Nat}{l:List Nm}(h:St w0 (lE E 3 (.slice (some ⟨g,0,none⟩) n cap) n (cg l)::L) w){i:Nat}(hi:i<l.length):
 w.cell? ⟨g,i *3,none⟩=some (.string (eo l i).name)/\w.cell? ⟨g,i *3+1,none⟩=some (.string (eo l i).gK)/\w.cell? ⟨g,i *3+2,none⟩=some (.int .i64 (eo l i).bF):=by
 have hl:=h.yD;rw[xu]at hl;have key:∀k,k<3->w.cell? ⟨g,i *3+k,none⟩=(eo l i).cells[k]? :=fun k hk=>by
  rw[h.zN.cellAt _ ae];exact flat_get _ 3 (fun _=>rfl) default l i k hi hk
 exact⟨key 0 ae,key 1 ae,key 2 ae⟩
theorem Below.cells{w w':World}(h:Below w.heap.size w w'){p:Addr}{v:Value}(hc:w.cell? p=some v):w'.cell? p=some v:=(Ext.bU h).cell hc
structure Kh (l:List Nm) (s:aj) (k:Nat):Prop where
 le:k<=l.length
 lo:∀p,p<k->fy (eo l p).name s<0
 hi:∀p,k<=p->p<l.length->0<=fy (eo l p).name s
def E0 (l:List Nm) (s:aj):Prop:= ∀p q,p<=q->q<l.length->fy (eo l q).name s<0->fy (eo l p).name s<0
def fc (l:List Nm) (s:aj) (k:Nat):Bool:=decide (k<l.length)&&(fy (eo l k).name s==0)
theorem fQ{a b:Bool}(h:a=b):Ending.returned (.bool a)=.returned (.bool b):=by rw[h]
def rE:aj:=⟨#[97,98,99,100,101,102,103,104,105,106,107,108,109,110,111,112,113,114,115,116,117,118,119,120,121,122,48,49,50,51,52,53,54,55,56,57]⟩
def isLet (c:UInt8):Bool:=(97<=c&&c<=122)||(48<=c&&c<=57)
def gB (s:aj):Bool:=s.data.toList.all isLet
def dc (s:aj) (xQ:Nat):Bool:=decide (1<=s.size)&&(decide (s.size<=xQ)&&gB s)
theorem EB(c:UInt8):rE.data.toList.contains c=isLet c:=by
 have h:∀n:Fin 256,rE.data.toList.contains (UInt8.ofNat n.val)=isLet (UInt8.ofNat n.val):=by decide+kernel
 have :=h ⟨c.toNat,c.toNat_lt⟩;simpa using this
theorem dropWhile_nil{α:Type}{p:α->Bool}:∀{l:List α},l.dropWhile p=[]↔l.all p=true
 |[]=>by simp
 |a::l=>by
  by_cases h:p a=true
  ·simp only[List.dropWhile_cons,h,if_true,List.all_cons,Bool.true_and];exact dropWhile_nil
  ·simp[h]
theorem LK(s:aj):Lib.trimS s.data.toList rE.data.toList=[]↔gB s=true:=by
 have hp:(fun c=>rE.data.toList.contains c)=isLet:=funext EB;have cU:∀l:List UInt8,(l.dropWhile isLet).all isLet=true↔l.all isLet=true:=fun l=>by
  induction l with
  |nil=>simp
  |cons a l ih=>
   by_cases h:isLet a=true
   ·simp[h,<-ih]
   ·simp[h]
 unfold Lib.trimS Lib.trimLeftS Lib.trimRightS gB;rw[hp,dropWhile_nil,List.all_reverse,cU,List.all_reverse]
def cH (s:aj):Bool:=dc s 8
def fJ (s:aj):Bool:=dc s 12
def gQ (s:aj):Bool:=s.toList.isEmpty
def bK (x:Nm):Bool:=cH x.name&&(decide (-1<=x.bF)&&(decide (x.bF<=3)&&(cH x.gK||(gQ x.gK&&x.bF== -1))))
theorem fA{P:Program}(w:World)(dT sT ty elem:TypeId)(i:TypeInfo)(g o Xd agj:Nat)(a:Addr)(qH Bz:Nat)(cur:Array Value)(t:TypeId)(cs:List Value)(hu:P.underlying dT=some (.slice elem))(hi:P.info? elem=some i)(hg:w.heap[g]? =some (.cells cur t (0,0)))(hn:cs.length=Nat.min qH Xd *i.size)(Pb:cz w a cs)(o9:o+cs.length<=cur.size)(h1:∀v∈cs,v.oneCell'=true):
 (Builtin.copy_ #[dT,sT] ty #[.slice (some ⟨g,o,none⟩) Xd agj,.slice (some a) qH Bz]).run P w=
  .ok (goInt (Nat.min qH Xd:Nat)) (w.setRow g (cur.toList.take o++cs++cur.toList.drop (o+cs.length)).toArray):=by
 have hl:=run_loadCells_list (P:=P) (w:=w) a cs Pb;have gP:=run_storeCells_at P g o t cs 0 cur w hg (by simpa using o9) h1;simp only[Nat.add_zero]at gP;simp[Builtin.copy_,run_underlying hu,Builtin.lenOf,Builtin.firstCells,Go.sizeOf,typeInfo,hi,<-hn,hl,gP]
theorem oS{P:Program}(w:World)(t tn ty e:TypeId)(i:TypeInfo)(z:Value)(k kn:IntKind)(ht:P.underlying t=some (.slice e))(htn:P.underlying tn=some (.int kn))(hi:P.info? e=some i)(hz:i.zero=some z)(b:Addr)(qH Bz:Nat)(Sh:List Value)(hlo:Sh.length=qH *i.size)(holds:cz w b Sh)(n:Nat)(h0:0<n)(hs:0<i.size)(hg:Bz<qH+n)(h63:((qH+n:Nat):Int)<=9223372036854775807)(o9:Builtin.nextslicecap (qH+n) Bz *i.bytes<=281474976710656)(h48:n *i.bytes<=281474976710656):
 (Builtin.append_ #[t,tn] ty #[.slice (some b) qH Bz,.int k n]).run P w=
  .ok (.slice (some ⟨w.heap.size,0,none⟩) (qH+n) (grownCap w (qH+n) Bz e))
   (w.drew.alloc (.cells (Sh.toArray++Builtin.zeroCells z.cells n++Builtin.zeroCells z.cells (grownCap w (qH+n) Bz e-(qH+n))) e)):=by
 have hn:n≠0:=by omega
 have Eo:¬(qH+n<=Bz):=by omega
 have hw:IntKind.i64.wrap (n:Int)=n:=by rw[IntKind.wrap_i64];omega
 have afU:¬(9223372036854775807<((qH:Int)+(n:Int))):=by omega
 have afX:¬(281474976710656<Builtin.nextslicecap (qH+n) Bz *i.bytes):=by omega
 have afW:¬(281474976710656<(n:Int)*(i.bytes:Int)):=by
  rw[<-Int.natCast_mul];omega
 have ae7:¬((n:Int)<0):=by omega
 have BI:¬(n *i.size=0):=Nat.mul_ne_zero hn ae;have hfo:=run_firstCells_some (P:=P) w.drew i.size qH b qH Bz Sh hlo (by simpa[cz]using holds);simp[Builtin.append_,run_underlying ht,run_underlying htn,Go.sizeOf,typeInfo,zeroValue,hi,hz,asInt,asIntOf,hw,Eo,ae7,BI,afU,afX,afW,Question.forced,hfo,newRow,grownCap]
namespace St
variable {w0 w:World} {L:List HP} {b b':Nat} {c c':Array Value} {T T':TypeId}
theorem frozen(h:St w0 (bA b (.cells c T (0,0))::L) w)(o:Nat):w.frozen? ⟨b,o,none⟩=false:=by
 simp[World.frozen?,h.look.2]
theorem shape(h:St w0 (bA b (.cells c T (0,0))::L) w):w.shape? b=some (T,c.size):=by
 simp[World.shape?,h.look.2]
theorem fj{fz:Nat×Nat}(h:St w0 (bA b (.cells c T fz)::L) w){off:Nat}{cs:List Value}(hc:∀(j:Nat) (v:Value),cs[j]? =some v->c[off+j]? =some v):cz w ⟨b,off,none⟩ cs:=fun j v hj=>by
 rw[Addr.add_lit,World.cell?,h.look.2];exact hc j v hj
theorem lZ{A B:HP}(h:St w0 (A::B::L) w):St w0 (B::A::L) w:=h.pick (.tail .head)
end St
theorem xo{P:Program}{w0 w:World}{L:List HP}{b b':Nat}{c c':Array Value}{T T':TypeId}(t tR e:TypeId)(i:TypeInfo)(ht:P.underlying t=some (.slice e))(hi:P.info? e=some i)(h:St w0 (bA b (.cells c T (0,0))::bA b' (.cells c' T' (0,0))::L) w)(o n cap o' n' nM:Nat)(hc':c'.size≠0):
 (Extern.SlicesOverlaps.overlaps #[t,t] #[tR] #[.slice (some ⟨b,o,none⟩) n cap,.slice (some ⟨b',o',none⟩) n' nM]).run P w=.ok (.bool false) w:=
 Lib.run_overlaps_apart w t tR e ht i.size (fun w=>by simp[Go.sizeOf,typeInfo,hi]) ⟨b,o,none⟩ ⟨b',o',none⟩ n cap n' nM h.ne T T' c.size c'.size h.shape h.drop.shape hc' (h.frozen o) (h.frozen _)
section
variable {P:Program} {ops:Array Oper} {Q:Exit->Act->World->Prop} {a a':Act} {w w':World} {o:Oper} {v:Value}
theorem nK(d s:Operand)(t t':TypeId)(ho:o.op=.call ⟨.builtin .copy,#[d,s],#[t,t']⟩)(x u:Value)(hd:a.eval d=x)(hs:a.eval s=u)(hr:(Builtin.copy_ #[t,t'] o.type #[x,u]).run P w=.ok v w'):(execOp a.eval o).run P w=.ok (.value v) w':=by
 unfold execOp;simp only[ho,resolve,invoke,builtin,Sem.run_bind,Sem.run_pure,Result.andThen_ok,List.map_toArray,aJ,List.map_nil,hd,hs,hr]
theorem mH(d s:Operand)(t t':TypeId)(ho:o.op=.call ⟨.builtin .append,#[d,s],#[t,t']⟩)(x u:Value)(hd:a.eval d=x)(hs:a.eval s=u)(hr:(Builtin.append_ #[t,t'] o.type #[x,u]).run P w=.ok v w'):(execOp a.eval o).run P w=.ok (.value v) w':=by
 unfold execOp;simp only[ho,resolve,invoke,builtin,Sem.run_bind,Sem.run_pure,Result.andThen_ok,List.map_toArray,aJ,List.map_nil,hd,hs,hr]
theorem uw{rest:List Oper}(hg:o.guard=none)(d s:Operand)(t t':TypeId)(ho:o.op=.call ⟨.builtin .copy,#[d,s],#[t,t']⟩)(x u:Value)(hd:a.eval d=x)(hs:a.eval s=u)(hr:(Builtin.copy_ #[t,t'] o.type #[x,u]).run P w=.ok v w')(h:∀K:Act->World->Prop,(∀a w,wpList P ops Q rest a w->K a w)->K (a.put o.dst v) w'):wpList P ops Q (o::rest) a w:=
 Ru (by simp[Region.wanted,hg]) (nK d s t t' ho x u hd hs hr) h
variable {rest:List (Kd×Oper)}
theorem me(hw:Region.wanted o (yielded ops a.tmps)=true)(hr:(execOp a.eval o).run P w=.ok (.value v) w')(hp:a.put o.dst v=a')(h:ja P ops Q rest a' w'):ja P ops Q ((.write,o)::rest) a w:=by
 rw[eJ hw,Oper.wp,hr];show ja P ops Q rest (a.put o.dst v) w';rw[hp];exact h
theorem sF(hw:Region.wanted o (yielded ops a.tmps)=true)(hr:(execOp a.eval o).run P w=.ok .skip w')(hp:a.put o.dst undef=a')(h:ja P ops Q rest a' w'):ja P ops Q ((.write,o)::rest) a w:=by
 rw[eJ hw,Oper.wp,hr];show ja P ops Q rest (a.put o.dst undef) w';rw[hp];exact h
theorem Fj(hw:Region.wanted o (yielded ops a.tmps)=true)(hr:(execOp a.eval o).run P w=.ok (.value v) w')(he:Ext w w')(hp:a.put o.dst v=a')(h:ja P ops Q rest a' w'):ja P ops Q ((.ef,o)::rest) a w:=by
 rw[hU hw,Oper.wp,hr];refine⟨he,?_⟩;rw[hp];exact h
end
theorem ll{P:Program}{w0 w:World}{L:List HP}{b off:Nat}{c:Array Value}{T E:TypeId}{v:Value}(h:St w0 (bA b (.cells c E (0,0))::L) w)(hn:(Go.sizeOf T).run P w=.ok v.cells.size w)(o9:off+v.cells.size<=c.size)(h1:∀u∈v.cells.toList,u.oneCell'=true):
 (storeVar T ⟨b,off,none⟩ v).run P w=.ok () (w.setRow b (c.toList.take off++v.cells.toList++c.toList.drop (off+v.cells.toList.length)).toArray):=by
 have gP:=run_storeCells_at P b off E v.cells.toList 0 c w h.look.2 (by simpa using o9) h1;simp only[Nat.add_zero]at gP;simp[storeVar,hn,gP]
theorem oP{α:Type}(cur ins:List α)(k m n c:Nat)(hk:k<=n)(hm:ins.length=m)(hn:n+m<=c)(hc:cur.length=c):
 let c1:=cur.take (k+m)++((cur.take n).drop k)++cur.drop (n+m)
 (c1.take k++ins++c1.drop (k+m)).take (n+m)=(cur.take n).take k++ins++(cur.take n).drop k:=by
 intro c1;have h1:c1.take k=cur.take k:=by
  simp only[c1,aR];rw[List.take_append_of_le_length ez,List.take_take,Nat.min_eq_left ae]
 have h2:c1.drop (k+m)=(cur.take n).drop k++cur.drop (n+m):=by
  simp only[c1,aR];rw[List.drop_append_of_le_length ez,List.drop_of_length_le ez,List.nil_append]
 rw[h1,h2,List.take_take,Nat.min_eq_left hk];rw[<-aR,List.take_append_of_le_length ez];exact List.take_of_length_le ez
theorem xE{α:Type}(A Z vs D:List α)(k m d:Nat)(hA:A.length=k)(hv:vs.length=m)(hD:D.length=d):
 let C0:=A++Z;let C1:=C0.take k++vs++C0.drop (k+m)
 (C1.take (k+m)++D++C1.drop (k+m+d)).take (k+m+d)=A++vs++D:=by
 intro C0 C1;have h0:C0.take k=A:=by simp only[C0];rw[<-hA];exact List.take_left
 have h1:C1.take (k+m)=A++vs:=by
  simp only[C1,h0];rw[show k+m=(A++vs).length by simp[hA,hv]];exact List.take_left
 rw[h1,show k+m+d=(A++vs++D).length by simp[hA,hv,hD];omega];exact List.take_left
end WB
namespace WB
open Go Go.RowKit
namespace St
variable {w0 w:World} {L R:List HP} {b off:Nat} {c:Array Value} {T:TypeId} {fz:Nat×Nat} {v:Value}
theorem cell(h:St w0 (bA b (.cells c T fz)::L) w)(hc:c[off]? =some v):w.cell? ⟨b,off,none⟩=some v:=by
 rw[World.cell?,h.look.2];exact hc
theorem P2(h:St w0 L w)(p:bB L (bA b (.cells c T fz)) R)(hc:c[off]? =some v):w.cell? ⟨b,off,none⟩=some v:=(h.pick p).cell hc
end St
theorem Fk{P:Program}{ops:Array Oper}{Q:Exit->Act->World->Prop}{rest:List (Kd×Oper)}{o:Oper}{a a':Act}{w w':World}{v:Value}(hw:Region.wanted o (yielded ops a.tmps)=true)(hr:(execOp a.eval o).run P w=.ok (.value v) w')(he:Ext w w')(hp:a.put o.dst v=a')(h:ja P ops Q rest a' w'):ja P ops Q ((.ef,o)::rest) a w:=Fj hw hr he hp h
theorem Ext.alloc(w:World)(o:Obj):Ext w (w.alloc o):=⟨by simp,fun k hk=>Below.heap_alloc _ _ _ hk⟩
theorem Bv{P:Program}{ops:Array Oper}{Q:Exit->Act->World->Prop}{rest:List (Kd×Oper)}{o:Oper}{a:Act}{w w':World}{f:FuncId}{args:Array Value}{R:Ending->World->Prop}(hw:Region.wanted o (yielded ops a.tmps)=true)(hr:(execOp a.eval o).run P w=.ok (.enter f args) w')(hc:Calls P f args w' R)(h:∀e uf,R e uf->∃v,e=.returned v/\ja P ops Q rest (a.put o.dst v) uf):ja P ops Q ((.write,o)::rest) a w:=by
 rw[eJ hw,Oper.wp,hr];refine hc.mono fun e uf hR=>?_
 obtain⟨v,rfl,hv⟩:=h e uf hR;exact hv
theorem Av{P:Program}{a:Act}{w w':World}{d:Option Tmp}{T ty:TypeId}{x y:Operand}{pos:String}{after:Array Edge}{g:Option (Nat×Bool)}{ad:Addr}{v:Value}(ha:a.eval x=.pointer (some ad))(hv:a.eval y=v)(hr:(storeVar T ad v).run P w=.ok () w'):(execOp a.eval ⟨d,.store T x y,ty,pos,after,g⟩).run P w=.ok .skip w':=by
 simp[execOp,ha,hv,Instr.storeAt,Instr.sureAddr,hr]
theorem zi{c:Array Value}{off:Nat}{v:Value}(h:c[off]? =some v):c.setIfInBounds off v=c:=by
 apply Array.ext
 ·simp
 ·intro i h1 h2;rw[Array.getElem_setIfInBounds];split
  ·rename_i e;subst e;rw[Array.getElem?_eq_getElem h2]at h;exact(Option.some.inj h).symm
  ·rfl
theorem IC{c:Array Value}{off:Nat}{v:Value}(h:off<c.size):(c.toList.take off++[v]++c.toList.drop (off+1)).toArray=c.setIfInBounds off v:=by
 apply Array.ext';simp[List.set_eq_take_append_cons_drop,h]
theorem Fu{α:Type}(cur ins:List α)(k m n:Nat)(hi:ins.length=m)(h:k+m<=n)(hn:n<=cur.length):
 (cur.take k++ins++cur.drop (k+m)).take n=(cur.take n).take k++ins++(cur.take n).drop (k+m):=by
 have h1:(cur.take k++ins).length=k+m:=by simp[hi];omega
 rw[List.take_append,h1,List.take_of_length_le ae,List.take_take,Nat.min_eq_left ae,List.drop_take]
def bE (l:List Nm) (s:aj):Nat:=(l.takeWhile fun x=>decide (fy x.name s<0)).length
theorem iF{α:Type}(p:α->Bool):∀l:List α,(l.takeWhile p).length<=l.length
 |[]=>aP _
 |a::l=>by
  by_cases h:p a=true
  ·simp only[List.takeWhile_cons,h,if_true,List.length_cons];have :=iF p l;omega
  ·simp[h]
theorem lh:∀{l:List Nm} {s:aj} {k:Nat},Kh l s k->k=bE l s
 |[],s,k,h=>by have :=h.le;simp at this;subst this;rfl
 |x::l,s,k,h=>by
  unfold bE;by_cases hx:fy x.name s<0
  ·simp only[List.takeWhile_cons,hx,decide_true,if_true,List.length_cons];cases k with
   |zero=>exact absurd hx (Int.not_lt.2 (h.hi 0 (aP _) ai))
   |succ k=>
    have :Kh l s k:=⟨by have :=h.le;simp at this;omega,fun p hp=>h.lo (p+1) ae,fun p hp hl=>h.hi (p+1) ae ez⟩;rw[lh this];rfl
  ·simp only[List.takeWhile_cons,hx,decide_false];cases k with
   |zero=>rfl
   |succ k=>exact absurd (h.lo 0 ae) hx
def cu (l:List Nm) (x:Nm):Int:=
 if bK x=false then 1 else if fc l x.name (bE l x.name)=true then 0 else if 20<=l.length then 12 else 0
def eE (l:List Nm) (x:Nm):List Nm:=
 if bK x=false then l else if fc l x.name (bE l x.name)=true then l.set (bE l x.name) x
 else if 20<=l.length then l else l.take (bE l x.name)++x::l.drop (bE l x.name)
def dj (T:TypeId) (k:Int):Value:=if k=0 then .nilIface else .iface T (.int .i64 k)
theorem mW{α β:Type}(f:α->List β)(sz:Nat)(hf:∀x,(f x).length=sz):∀(l:List α) (k:Nat),k<=l.length->(l.flatMap f).take (k *sz)=(l.take k).flatMap f
 |l,0,_=>by simp
 |[],k+1,h=>by simp at h
 |x::l,k+1,h=>by
  simp only[bj,List.take_succ_cons];rw[List.take_append,hf,show(k+1)*sz-sz=k *sz by rw[Nat.succ_mul];omega,mW f sz hf l k Ic,List.take_of_length_le (by rw[hf,Nat.succ_mul];omega)]
theorem mX{α β:Type}(f:α->List β)(sz:Nat)(hf:∀x,(f x).length=sz):∀(l:List α) (k:Nat),k<=l.length->(l.flatMap f).drop (k *sz)=(l.drop k).flatMap f
 |l,0,_=>by simp
 |[],k+1,h=>by simp at h
 |x::l,k+1,h=>by
  simp only[bj,List.drop_succ_cons];rw[List.drop_append,hf,show(k+1)*sz-sz=k *sz by rw[Nat.succ_mul];omega,mX f sz hf l k Ic,List.drop_of_length_le (by rw[hf,Nat.succ_mul];omega),List.nil_append]
theorem zS(l:List Nm)(x:Nm)(k:Nat)(hk:k<=l.length):(cg l).take (k *3)++x.cells++(cg l).drop (k *3)=cg (l.take k++x::l.drop k):=by
 unfold cg;rw[mW _ 3 (fun _=>rfl) l k hk,mX _ 3 (fun _=>rfl) l k hk];simp
theorem xr(l:List Nm):∀u∈cg l,u.oneCell'=true:=fun u hu=>by
 obtain⟨x,_,hx⟩:=List.mem_flatMap.1 hu;simp[Nm.cells]at hx;rcases hx with rfl|rfl|rfl<;>rfl
theorem Nm.cells_one(x:Nm):∀u∈x.cells,u.oneCell'=true:=fun u hu=>by
 simp[Nm.cells]at hu;rcases hu with rfl|rfl|rfl<;>rfl
theorem FZ(l:List Nm)(x:Nm)(k:Nat)(hk:k<l.length):(cg l).take (k *3)++x.cells++(cg l).drop (k *3+3)=cg (l.set k x):=by
 unfold cg;rw[mW _ 3 (fun _=>rfl) l k ae,show k *3+3=(k+1)*3 by omega,mX _ 3 (fun _=>rfl) l (k+1) ae,List.set_eq_take_append_cons_drop];simp[hk]
theorem LP(l:List Nm)(x:Nm):(eE l x).length<=max l.length 20:=by
 unfold eE;split
 ·omega
 ·split
  ·simp;omega
  ·split
   ·omega
   ·have :bE l x.name<=l.length:=iF _ _;simp;omega
end WB
namespace WB
open Go Go.RowKit
def look (l:List Nm) (s:aj):Option Nm:=if fc l s (bE l s)=true then some (eo l (bE l s))else none
def cP (l:List Nm) (s:aj):Bool:=match look l s with|some x=>gQ x.gK|none=>false
def fg (l:List Nm):Nat->aj->aj×Int×Int
 |0,_=>(⟨#[]⟩,0,11)
 |n+1,s=>match look l s with
  |none=>(⟨#[]⟩,0,7)
  |some x=>if gQ x.gK=true then(s,-1,0)else if 0<=x.bF then(x.gK,x.bF,0)else fg l n x.gK
theorem CU{l:List Nm}{s:aj}(h:fc l s (bE l s)=false):look l s=none:=by simp[look,h]
theorem CT{l:List Nm}{s:aj}(h:fc l s (bE l s)=true):look l s=some (eo l (bE l s)):=by simp[look,h]
theorem tJ{l:List Nm}{s:aj}{k:Nat}(h:fc l s k=true):k<l.length:=by
 unfold fc at h;rw[bm]at h;simpa using h.1
theorem Dx:∀a:List UInt8,Lib.compareBytes a a=0
 |[]=>rfl
 |x::a=>by
  have :¬x<x:=by rw[UInt8.lt_iff_toNat_lt];omega
  simp only[Lib.compareBytes,this,if_false];exact Dx a
theorem Lq:∀{a b:List UInt8},Lib.compareBytes a b=0->a=b
 |[],[],_=>rfl
 |[],_::_,h=>by simp[Lib.compareBytes]at h
 |_::_,[],h=>by simp[Lib.compareBytes]at h
 |x::a,y::b,h=>by
  unfold Lib.compareBytes at h;split at h
  ·simp at h
  ·split at h
   ·simp at h
   ·rename_i h1 h2;have :x=y:=UInt8.toNat_inj.1 (by rw[UInt8.lt_iff_toNat_lt]at h1 h2;omega);rw[this,Lq h]
theorem Dy:∀(a b:List UInt8),Lib.compareBytes a b= -Lib.compareBytes b a
 |[],[]=>rfl
 |[],_::_=>rfl
 |_::_,[]=>rfl
 |x::a,y::b=>by
  unfold Lib.compareBytes;by_cases h1:x<y
  ·have h2:¬y<x:=by rw[UInt8.lt_iff_toNat_lt]at *;omega
   simp[h1,h2]
  ·by_cases h2:y<x
   ·simp[h1,h2]
   ·simp only[h1,h2,if_false];exact Dy a b
theorem AK:∀{a b c:List UInt8},Lib.compareBytes a b<0->Lib.compareBytes b c<0->Lib.compareBytes a c<0
 |[],_,[],h1,h2=>by cases ‹List UInt8› <;>simp[Lib.compareBytes]at h1 h2
 |[],_,_::_,_,_=>by simp[Lib.compareBytes]
 |_::_,[],_,h1,_=>by simp[Lib.compareBytes]at h1
 |_::_,_::_,[],_,h2=>by simp[Lib.compareBytes]at h2
 |x::a,y::b,z::c,h1,h2=>by
  unfold Lib.compareBytes at h1 h2 ⊢;simp only[UInt8.lt_iff_toNat_lt]at h1 h2 ⊢;by_cases e1:x.toNat<y.toNat
  ·by_cases e2:y.toNat<z.toNat
   ·have :x.toNat<z.toNat:=by omega
    simp[this]
   ·by_cases e3:z.toNat<y.toNat
    ·simp[e2,e3]at h2
    ·have :x.toNat<z.toNat:=by omega
     simp[this]
  ·by_cases e1':y.toNat<x.toNat
   ·simp[e1,e1']at h1
   ·simp only[e1,e1',if_false]at h1;by_cases e2:y.toNat<z.toNat
    ·have :x.toNat<z.toNat:=by omega
     simp[this]
    ·by_cases e3:z.toNat<y.toNat
     ·simp[e2,e3]at h2
     ·simp only[e2,e3,if_false]at h2;have n1:¬x.toNat<z.toNat:=by omega
      have n2:¬z.toNat<x.toNat:=by omega
      simp only[n1,n2,if_false];exact AK h1 h2
theorem k9(a:aj):fy a a=0:=Dx _
theorem ov{a b:aj}(h:fy a b=0):a=b:=by
 have :=Lq h;cases a;cases b;rename_i x y;cases x;cases y;simp at this;rw[this]
theorem k_(a b:aj):fy a b= -fy b a:=Dy _ _
theorem nL{a b c:aj}(h1:fy a b<0)(h2:fy b c<0):fy a c<0:=AK h1 h2
def dF (l:List Nm):Prop:=l.Pairwise fun a b=>fy a.name b.name<0
theorem dF.mono{l:List Nm}(h:dF l)(s:aj):E0 l s:=fun p q QZ hq hs=>by
 rcases Nat.lt_or_eq_of_le QZ with dN|rfl
 ·have :=List.pairwise_iff_getElem.1 h p q ae hq dN;rw[show eo l p=l[p]' ae by simp[eo,au,show p<l.length by omega]];rw[show eo l q=l[q]by simp[eo,au,hq]]at hs;exact nL this hs
 ·exact hs
theorem zf:dF []:=List.Pairwise.nil
def lk (l:List Nm) (s:aj):Option Nm:=l.find? fun x=>decide (x.name=s)
def qK (x:Nm):List Nm->List Nm
 |[]=>[x]
 |y::l=>if fy y.name x.name<0 then y::qK x l else if fy y.name x.name=0 then x::l else x::y::l
theorem eY(x:Nm)(l:List Nm)(s:aj):lk (x::l) s=if x.name=s then some x else lk l s:=by
 unfold lk;rw[List.find?_cons];by_cases h:x.name=s<;>simp[h]
theorem zX{l:List Nm}{s:aj}(h:∀y∈l,fy s y.name<0):lk l s=none:=by
 unfold lk;rw[List.find?_eq_none];intro y hy he;have :=h y hy;simp at he;rw[he,k9]at this;omega
theorem gk:∀{l:List Nm} (_:dF l) (s:aj),look l s=lk l s
 |[],_,s=>rfl
 |x::l,h,s=>by
  obtain⟨h1,h2⟩:=List.pairwise_cons.1 h;rw[eY];by_cases hx:fy x.name s<0
  ·have hs:bE (x::l) s=bE l s+1:=by simp[bE,List.takeWhile_cons,hx]
   have oo:x.name≠s:=fun e=>by rw[e,k9]at hx;omega
   rw[if_neg oo,<-gk h2 s];unfold look;rw[hs];have :fc (x::l) s (bE l s+1)=fc l s (bE l s):=by simp[fc,eo]
   rw[this];rfl
  ·have hs:bE (x::l) s=0:=by simp[bE,List.takeWhile_cons,hx]
   unfold look;rw[hs];by_cases he:x.name=s
   ·simp[fc,eo,he,k9]
   ·have h0:fy x.name s≠0:=fun e=>he (ov e)
    have :fc (x::l) s 0=false:=by simp[fc,eo,h0]
    rw[this,if_neg he];have dN:fy s x.name<0:=by rw[k_];omega
    rw[zX fun y hy=>nL dN (h1 y hy)];rfl
theorem Ge{x y:Nm}:∀{l:List Nm},y∈qK x l->y=x\/y∈l
 |[],h=>by simp[qK]at h;exact Or.inl h
 |z::l,h=>by
  unfold qK at h;split at h
  ·rcases aK.1 h with h|h
   ·exact Or.inr Ve
   ·rcases Ge h with h|h
    ·exact Or.inl h
    ·exact Or.inr Ve
  ·split at h
   ·rcases aK.1 h with h|h
    ·exact Or.inl h
    ·exact Or.inr Ve
   ·rcases aK.1 h with h|h
    ·exact Or.inl h
    ·exact Or.inr h
theorem oh{x:Nm}:∀{l:List Nm},dF l->dF (qK x l)
 |[],_=>List.pairwise_singleton _ _
 |z::l,h=>by
  obtain⟨h1,h2⟩:=List.pairwise_cons.1 h;unfold qK;split
  ·rename_i hz;refine List.pairwise_cons.2 ⟨fun y hy=>?_,oh h2⟩;rcases Ge hy with rfl|hy
   ·exact hz
   ·exact h1 y hy
  ·split
   ·rename_i he;have he:=ov he;exact List.pairwise_cons.2 ⟨fun y hy=>he▸h1 y hy,h2⟩
   ·rename_i h3 h4;have dN:fy x.name z.name<0:=by rw[k_];omega
    refine List.pairwise_cons.2 ⟨fun y hy=>?_,h⟩;rcases aK.1 hy with rfl|hy
    ·exact dN
    ·exact nL dN (h1 y hy)
theorem Eb{x:Nm}(s:aj):∀{l:List Nm},lk (qK x l) s=if x.name=s then some x else lk l s
 |[]=>by rw[qK,eY]
 |z::l=>by
  unfold qK;split
  ·rename_i hz;rw[eY,Eb s,eY];by_cases h1:z.name=s
   ·have :x.name≠s:=fun e=>by rw[h1,e,k9]at hz;omega
    simp[h1,this]
   ·simp[h1]
  ·split
   ·rename_i he;have he:=ov he;rw[eY,eY];by_cases h1:x.name=s
    ·simp[h1]
    ·simp[h1,he]
   ·rw[eY]
theorem FK(x:Nm):∀(l:List Nm),(if fc l x.name (bE l x.name)=true then l.set (bE l x.name) x else l.take (bE l x.name)++x::l.drop (bE l x.name))=qK x l
 |[]=>by simp[fc,bE,qK]
 |z::l=>by
  unfold qK;by_cases hz:fy z.name x.name<0
  ·have hs:bE (z::l) x.name=bE l x.name+1:=by simp[bE,List.takeWhile_cons,hz]
   have hh:fc (z::l) x.name (bE l x.name+1)=fc l x.name (bE l x.name):=by simp[fc,eo]
   rw[if_pos hz,hs,hh,<-FK x l];split<;>simp
  ·have hs:bE (z::l) x.name=0:=by simp[bE,List.takeWhile_cons,hz]
   rw[if_neg hz,hs];by_cases he:fy z.name x.name=0
   ·simp[fc,eo,he]
   ·simp[fc,eo,he]
theorem p9{l:List Nm}{s:aj}{x:Nm}(h:lk l s=some x):x∈l/\x.name=s:=⟨List.mem_of_find?_eq_some h,by simpa using List.find?_some h⟩
theorem sR:∀{l l':List Nm},dF l->dF l'->(∀s,lk l s=lk l' s)->l=l'
 |[],[],_,_,_=>rfl
 |[],y::l',_,_,h=>by have :=h y.name;rw[eY]at this;simp[lk]at this
 |x::l,[],_,_,h=>by have :=h x.name;rw[eY]at this;simp[lk]at this
 |x::l,y::l',h1,h2,h=>by
  obtain⟨a1,a2⟩:=List.pairwise_cons.1 h1;obtain⟨b1,b2⟩:=List.pairwise_cons.1 h2;have e1:=h x.name;have e2:=h y.name;rw[eY,eY,if_pos rfl]at e1;rw[eY,eY,if_pos rfl]at e2;have hn:y.name=x.name:=by
   rcases Decidable.em (y.name=x.name)with e|e
   ·exact e
   ·rw[if_neg e]at e1;rw[if_neg (fun h=>e h.symm)]at e2;have c1:=b1 _ (p9 e1.symm).1;have c2:=a1 _ (p9 e2).1;rw[k_]at c1;omega
  rw[if_pos hn]at e1;simp at e1;subst e1;rw[sR a2 b2 fun s=>?_];have e3:=h s;rw[eY,eY]at e3;by_cases hs:x.name=s
  ·subst hs;rw[zX a1,zX b1]
  ·simpa[hs]using e3
theorem wj{α:Type}[DecidableEq α]:∀{m l:List α},m.Nodup->(∀x∈m,x∈l)->m.length<=l.length
 |[],_,_,_=>aH _
 |x::m,l,h,hs=>by
  obtain⟨h1,h2⟩:=bL.1 h;have hx:x∈l:=hs x ai;have :=wj (m:=m) (l:=l.erase x) h2 fun y hy=>(List.mem_erase_of_ne (fun e=>by subst e;exact h1 hy)).2 (hs y (by simp[hy]))
  rw[List.length_erase_of_mem hx]at this;have :=List.length_pos_of_mem hx;simp;omega
def BD (l:List Nm) (s:aj):Option aj:=match look l s with
 |some x=>if gQ x.gK=true then none else if 0<=x.bF then none else some x.gK
 |none=>none
theorem Oh{l:List Nm}{s t:aj}(h:BD l s=some t)(n:Nat):fg l (n+1) s=fg l n t:=by
 unfold BD at h;rw[fg];split at h
 ·rename_i x hx;rw[hx];split at h
  ·simp at h
  ·split at h
   ·simp at h
   ·rename_i h1 h2;simp at h;subst h;simp[h1,h2]
 ·simp at h
def mc (l:List Nm) (s:aj):Nat->Option aj
 |0=>some s
 |i+1=>(mc l s i).bind (BD l)
theorem Fg(l:List Nm)(s:aj):∀i,mc l s (i+1)=(BD l s).bind (fun t=>mc l t i)
 |0=>by simp[mc]
 |i+1=>by
  rw[mc,Fg l s i];cases h:BD l s with
  |none=>rfl
  |some t=>simp[mc]
theorem NS{l:List Nm}{s:aj}{i:Nat}(h:mc l s i=none):∀j,i<=j->mc l s j=none:=fun j hj=>by
 induction hj with
 |refl=>exact h
 |step _ ih=>rw[mc,ih];rfl
theorem Kl{l:List Nm}{s t:aj}:∀{i j k:Nat},mc l s i=some t->mc l s j=some t->mc l s (i+k)=mc l s (j+k)
 |i,j,0,h1,h2=>by rw[Nat.add_zero,Nat.add_zero,h1,h2]
 |i,j,k+1,h1,h2=>by rw[<-Nat.add_assoc,<-Nat.add_assoc,mc,mc,Kl (k:=k) h1 h2]
theorem OQ{l:List Nm}{s:aj}{x:Nm}(h:look l s=some x):x∈l/\x.name=s:=by
 unfold look at h;split at h
 ·rename_i hh;simp at h;subst h;have hl:=tJ hh;have he:fy (eo l (bE l s)).name s=0:=by unfold fc at hh;rw[bm]at hh;simpa using hh.2
  refine⟨?_,ov he⟩;simp[eo,au,hl]
 ·simp at h
theorem Sj{l:List Nm}{s t:aj}(h:BD l s=some t):s∈l.map Nm.name:=by
 unfold BD at h;split at h
 ·rename_i x hx;obtain⟨h1,h2⟩:=OQ hx;exact aB.2 ⟨x,h1,h2⟩
 ·simp at h
theorem mg{l:List Nm}(h:dF l):(l.map Nm.name).Nodup:=by
 rw[List.nodup_iff_pairwise_ne,List.pairwise_map];exact h.imp fun {a b} hab e=>by rw[e,k9]at hab;omega
open Go Go.RowKit Go.ChangeMaps Go.MapKept
def W7 (es:List MapEntry) (m:List (aj×Value)):Prop:=es.map (fun e=>(e.key,e.val))=m.map (fun x=>(Value.string x.1,x.2))
def omap (b:Nat) (m:List (aj×Value)):HP:=ex fun es:Array MapEntry=>ex fun iJ:Nat=>sep (Mb (W7 es.toList m)) (bA b (.map es iJ))
def af5 (m:List (aj×Value)) (s:aj):Option Value:=match m with
 |[]=>none
 |x::r=>if x.1=s then some x.2 else af5 r s
def aer (m:List (aj×Value)) (s:aj) (v:Value):List (aj×Value):=match m with
 |[]=>[(s,v)]
 |x::r=>if x.1=s then(x.1,v)::r else x::aer r s v
def jd (m:List (aj×Value)) (s:aj):Option Nat:=match m with
 |[]=>none
 |x::r=>if x.1=s then some 0 else(jd r s).map (· +1)
variable {w0 w:World} {L:List HP} {P:Program} {b:Nat} {m:List (aj×Value)}
end WB
namespace WB
open Go Go.RowKit
variable {w0 w:World} {L:List HP} {P:Program}
end WB
namespace WB
open Go Go.RowKit
abbrev Env:=List (Nat×Value)
def cB:Env->Nat->Option Value
 |[],_=>none
 |(s,v)::r,t=>match Nat.beq s t with|true=>some v|false=>cB r t
def ev (G:Env):Operand->Option Value
 | .tmp t=>cB G t
 | .const v=>some v
 | .global g=>some (.pointer (some ⟨g,0,none⟩))
 | .func f=>some (.func (.func f) #[] #[])
structure cD (n:Nat) (D:List Deferred) (G:Env) (a:Act):Prop where
 size:a.tmps.size=n
 defers:a.defers=D
 get:∀t v,cB G t=some v->a.tmps[t]? =some v
theorem tN(s:Nat)(v:Value)(r:Env)(t:Nat):cB ((s,v)::r) t=if s=t then some v else cB r t:=by
 show(match Nat.beq s t with|true=>some v|false=>cB r t)=_
 cases h:Nat.beq s t with
 |true=>rw[if_pos (Nat.eq_of_beq_eq_true h)]
 |false=>rw[if_neg (fun e=>by rw[e,Nat.beq_refl]at h;cases h)]
section
variable {n:Nat} {D:List Deferred} {G G':Env} {a:Act} {x:Operand} {v:Value}
theorem cD.eval(h:cD n D G a)(hx:ev G x=some v):a.eval x=v:=by
 cases x with
 |tmp t=>
  have :=h.get t v hx;simp[Act.eval,Array.getD_eq_getD_getElem?,this]
 |const u=>simp only[ev,az]at hx;exact hx
 |global g=>simp only[ev,az]at hx;exact hx
 |func f=>simp only[ev,az]at hx;exact hx
theorem cD.put(h:cD n D G a)(t:Nat)(v:Value)(ht:t<n):cD n D ((t,v)::G) (a.put (some t) v):=by
 refine⟨by simp[Act.put,h.size],h.defers,fun s u hs=>?_⟩;rw[tN]at hs;by_cases e:t=s
 ·subst e;rw[if_pos rfl]at hs;have :t<a.tmps.size:=by rw[h.size];exact ht
  simp[Act.put,this];simpa using hs
 ·rw[if_neg e]at hs;simp[Act.put,e];exact h.get s u hs
def EY (G:Env):Env->Prop
 |[]=>True
 |(t,v)::r=>cB G t=some v/\EY G r
theorem EY.get:∀{G':Env},EY G G'->∀t v,cB G' t=some v->cB G t=some v
 |[],_,t,v,h=>by simp[cB]at h
 |(s,u)::r,⟨h1,h2⟩,t,v,h=>by
  rw[tN]at h;by_cases e:s=t
  ·subst e;rw[if_pos rfl]at h;rw[h1];exact h
  ·rw[if_neg e]at h;exact EY.get h2 t v h
theorem cD.sub(h:cD n D G a)(hs:EY G G'):cD n D G' a:=⟨h.size,h.defers,fun t v ht=>h.get t v (hs.get t v ht)⟩
end
def qm:Nat->List Value->Env
 |_,[]=>[]
 |i,v::r=>(i,v)::qm (i+1) r
theorem AV:∀(l:List Value) (i t:Nat) (v:Value),cB (qm i l) t=some v->i<=t/\l[t-i]? =some v
 |[],i,t,v,h=>by simp[qm,cB]at h
 |u::l,i,t,v,h=>by
  rw[qm,tN]at h;by_cases e:i=t
  ·subst e;rw[if_pos rfl]at h;exact⟨aP _,by simpa using h⟩
  ·rw[if_neg e]at h;obtain⟨h1,h2⟩:=AV l (i+1) t v h;refine⟨by omega,?_⟩;rw[show t-i=(t-(i+1))+1 by omega];simpa using h2
theorem cD.enter{args:Array Value}{n:Nat}(h:args.size<=n):cD n [] (qm 0 args.toList) {tmps:=args++Array.replicate (n-args.size) undef,defers:=[]}:=by
 refine⟨by simp;omega,rfl,fun t v ht=>?_⟩;have :=(AV _ _ _ _ ht).2;rw[Nat.sub_zero]at this;have dN:t<args.size:=by
  have :=(aw.1 this).1;simpa using this
 simp only[Array.getElem?_append,dN,if_true];simpa using this
def Ko (d:Bool) (P:Program) (ops:Array Oper) (Q:Exit->Act->World->Prop) (l:List (Kd×Oper)) (a:Act) (w:World):Prop:=
 match d with|true=>ja P ops Q l a w|false=>wpList P ops Q (l.map (·.2)) a w
def VP (d:Bool) (Q:Exit->Act->World->Prop):Exit->Act->World->Prop:=match d with|true=>fun _ _ _=>False|false=>Q
section
variable {d:Bool} {P:Program} {ops:Array Oper} {Q:Exit->Act->World->Prop} {rest:List (Kd×Oper)} {k:Kd} {o:Oper} {a:Act} {w:World} {v:Value}
theorem Fl(hw:Region.wanted o (yielded ops a.tmps)=false)(h:Ko d P ops Q rest (a.put o.dst undef) w):Ko d P ops Q ((k,o)::rest) a w:=by
 cases d with
 |true=>show ja _ _ _ _ _ _;rw[q4 hw];exact h
 |false=>exact wpList_skip hw h
theorem rO(hw:Region.wanted o (yielded ops a.tmps)=true){l:List Oper}(h:o.wp P a w (wpList P ops Q l) Q):wpList P ops Q (o::l) a w:=by
 unfold wpList;rw[if_pos hw];exact .inl h
theorem Rx(hw:Region.wanted o (yielded ops a.tmps)=true)(hv:∀w',(execOp a.eval o).run P w'=.ok (.value v) w')(h:Ko d P ops Q rest (a.put o.dst v) w):Ko d P ops Q ((k,o)::rest) a w:=by
 cases d with
 |true=>
  show ja _ _ _ _ _ _
  by_cases hl:k.o0=true
  ·rw[ek hl hw];exact⟨v,fun w' _=>.inl (hv w'),h⟩
  ·cases k with
   |ef=>rw[hU hw];unfold Oper.wp;rw[hv];exact⟨Ext.refl w,h⟩
   |write=>rw[eJ hw];unfold Oper.wp;rw[hv];exact h
   |_=>exact absurd rfl hl
 |false=>exact rO hw (by unfold Oper.wp;rw[hv];exact h)
theorem NU(hk:(!d||k != .pure)=true)(hw:Region.wanted o (yielded ops a.tmps)=true)(hv:∀w',Ext w w'->(execOp a.eval o).run P w'=.ok (.value v) w')(h:Ko d P ops Q rest (a.put o.dst v) w):
 Ko d P ops Q ((k,o)::rest) a w:=by
 cases d with
 |true=>
  show ja _ _ _ _ _ _
  cases k with
  |pure=>simp at hk
  |read=>rw[ek rfl hw];exact⟨v,fun w' e=>.inl (hv w' e),h⟩
  |same=>rw[ek rfl hw];exact⟨v,fun w' (e:w'=w)=>.inl (by subst e;exact hv _ (Ext.refl _)),h⟩
  |ef=>rw[hU hw];unfold Oper.wp;rw[hv _ (Ext.refl w)];exact⟨Ext.refl w,h⟩
  |write=>rw[eJ hw];unfold Oper.wp;rw[hv _ (Ext.refl w)];exact h
 |false=>exact rO hw (by unfold Oper.wp;rw[hv _ (Ext.refl w)];exact h)
theorem Fm(hk:(!d||(k== .ef||k== .write))=true)(hw:Region.wanted o (yielded ops a.tmps)=true)(h:o.wp P a w (fun a' w'=>Ext w w'/\Ko d P ops Q rest a' w') (fun _ _ _=>False)):Ko d P ops Q ((k,o)::rest) a w:=by
 cases d with
 |true=>
  show ja _ _ _ _ _ _
  cases k with
  |pure=>simp at hk
  |read=>simp at hk
  |same=>simp at hk
  |ef=>rw[hU hw];exact h
  |write=>rw[eJ hw];exact jB (fun a w hh=>hh.2) h
 |false=>exact rO hw (jB (fun a w hh=>hh.2) h)
theorem mO(hk:(!d||k== .write)=true)(hw:Region.wanted o (yielded ops a.tmps)=true)(h:o.wp P a w (fun a' w'=>Ko d P ops Q rest a' w') (VP d Q)):Ko d P ops Q ((k,o)::rest) a w:=by
 cases d with
 |true=>
  show ja _ _ _ _ _ _
  cases k with
  |write=>rw[eJ hw];exact h
  |_=>simp at hk
 |false=>exact rO hw h
end
section
variable (P:Program)
def KO (ops:Array Oper) (d:Bool) (Q:Exit->Act->World->Prop) (n:Nat) (D:List Deferred) (w0:World) (G:Env) (L:List HP) (l:List (Kd×Oper)):Prop:=
 ∀a w,cD n D G a->St w0 L w->Ko d P ops Q l a w
def K (c:Code) (Q:Exit->Act->World->Prop) (n:Nat) (D:List Deferred) (w0:World) (G:Env) (L:List HP):Prop:=
 ∀a w,cD n D G a->St w0 L w->c.wp P Q a w
end
def KQ (Q:Exit->Act->World->Prop) (e:Exit) (n:Nat) (D:List Deferred) (w0:World) (G:Env) (L:List HP):Prop:=
 ∀a w,cD n D G a->St w0 L w->Q e a w
section
variable {P:Program} {ops:Array Oper} {d:Bool} {Q:Exit->Act->World->Prop} {n:Nat} {D:List Deferred} {w0:World} {G G':Env} {L L':List HP} {l:List (Kd×Oper)} {c x y:Code} {e:Exit}
def wr:List Oper->List (Kd×Oper)
 |[]=>[]
 |o::l=>(.write,o)::wr l
theorem Ix:∀l:List Oper,(wr l).map (·.2)=l
 |[]=>rfl
 |o::l=>by simp[wr,Ix l]
theorem K.Ih{id:Nat}{l:List Oper}(h:KO P l.toArray false Q n D w0 G L (wr l)):K P (.region id l.toArray false) Q n D w0 G L:=fun a w ha hw=>by
 have :=h a w ha hw;simp only[Ko,Ix]at this;exact wp_region_lit this
theorem K.draw{id:Nat}(ks:List Kd)(ord:List Nat)(wM:P.follows .mixedOrders=true)(qM:YE ops ks ord=true)(h:KO P ops true Q n D w0 G L (ord.map (item ops ks))):K P (.region id ops true) Q n D w0 G L:=fun a _ ha hw=>
 fa ks ord wM qM (h a _ ha hw.drew)
theorem KO.nil(h:KQ Q .normal n D w0 G L):KO P ops d Q n D w0 G L []:=fun a w ha hw=>by
 cases d with
 |true=>exact h a w ha hw
 |false=>exact h a w ha hw
theorem K.seq(h:K P x (Exit.then (y.wp P Q) Q) n D w0 G L):K P (.seq x y) Q n D w0 G L:=fun a w ha hw=>wp_seq (h a w ha hw)
theorem K.block{id:Nat}(h:K P x (Exit.inBlock id Q) n D w0 G L):K P (.block id x) Q n D w0 G L:=fun a w ha hw=>wp_block (h a w ha hw)
theorem K.ret(h:KQ Q .ret n D w0 G L):K P .ret Q n D w0 G L:=fun a w ha hw=>wp_ret (h a w ha hw)
theorem K.skip(h:KQ Q .normal n D w0 G L):K P .skip Q n D w0 G L:=fun a w ha hw=>wp_skip (h a w ha hw)
theorem K.exit{id:Nat}(h:KQ Q (.exit id) n D w0 G L):K P (.exit id) Q n D w0 G L:=fun a w ha hw=>wp_exit (h a w ha hw)
theorem K.cond{cd:Operand}{b:Bool}(hc:ev G cd=some (.bool b))(ht:b=true->K P x Q n D w0 G L)(hf:b=false->K P y Q n D w0 G L):K P (.cond cd x y) Q n D w0 G L:=fun a w ha hw=>
 wp_cond_split (ha.eval hc) (fun e=>ht e a w ha hw) (fun e=>hf e a w ha hw)
theorem K.bn{cd:Operand}{p:Prop}[Decidable p](hc:ev G cd=some (.bool (decide p)))(ht:p->K P x Q n D w0 G L)(hf:¬p->K P y Q n D w0 G L):K P (.cond cd x y) Q n D w0 G L:=
 K.cond hc (fun e=>ht (of_decide_eq_true e)) (fun e=>hf (of_decide_eq_false e))
theorem K.bW{cd:Operand}{b:Bool}(hc:ev G cd=some (.bool b))(hb:b=true)(h:K P x Q n D w0 G L):K P (.cond cd x y) Q n D w0 G L:=
 K.cond hc (fun _=>h) (fun e=>by rw[hb]at e;cases e)
theorem K.ct{cd:Operand}{b:Bool}(hc:ev G cd=some (.bool b))(hb:b=false)(h:K P y Q n D w0 G L):K P (.cond cd x y) Q n D w0 G L:=
 K.cond hc (fun e=>by rw[hb]at e;cases e) (fun _=>h)
theorem KQ.next(h:K P y Q n D w0 G L):KQ (Exit.then (y.wp P Q) Q) .normal n D w0 G L:=h
theorem KQ.iE{N:Act->World->Prop}{i:Nat}(h:KQ Q (.exit i) n D w0 G L):KQ (Exit.then N Q) (.exit i) n D w0 G L:=h
theorem KQ.nf{N:Act->World->Prop}(h:KQ Q .ret n D w0 G L):KQ (Exit.then N Q) .ret n D w0 G L:=h
theorem KQ.yT{i:Nat}(h:KQ Q .ret n D w0 G L):KQ (Exit.inBlock i Q) .ret n D w0 G L:=h
theorem KQ.gy{i:Nat}(h:KQ Q .normal n D w0 G L):KQ (Exit.inBlock i Q) .normal n D w0 G L:=h
theorem KQ.kj{i:Nat}(h:KQ Q .normal n D w0 G L):KQ (Exit.inBlock i Q) (.exit i) n D w0 G L:=fun a w ha hw=>by
 show if i=i then Q .normal a w else Q (.exit i) a w
 rw[if_pos rfl];exact h a w ha hw
theorem KQ.G9{i j:Nat}(oo:Nat.beq j i=false)(h:KQ Q (.exit j) n D w0 G L):KQ (Exit.inBlock i Q) (.exit j) n D w0 G L:=fun a w ha hw=>by
 show if j=i then Q .normal a w else Q (.exit j) a w
 rw[if_neg (fun e=>by rw[e,Nat.beq_refl]at oo;cases oo)];exact h a w ha hw
theorem K.conv(hs:∀w,St w0 L w->St w0 L' w)(h:K P c Q n D w0 G L'):K P c Q n D w0 G L:=fun a w ha hw=>h a w ha (hs w hw)
theorem KQ.conv(hs:∀w,St w0 L w->St w0 L' w)(h:KQ Q e n D w0 G L'):KQ Q e n D w0 G L:=fun a w ha hw=>h a w ha (hs w hw)
theorem K.fact{p:Prop}(hs:∀w,St w0 L w->p)(h:p->K P c Q n D w0 G L):K P c Q n D w0 G L:=fun a w ha hw=>h (hs w hw) a w ha hw
theorem KO.fact{p:Prop}(hs:∀w,St w0 L w->p)(h:p->KO P ops d Q n D w0 G L l):KO P ops d Q n D w0 G L l:=fun a w ha hw=>h (hs w hw) a w ha hw
theorem K.bV{α:Sort _}{F:α->List HP}(hs:∀w,St w0 L w->∃x,St w0 (F x) w)(h:∀x,K P c Q n D w0 G (F x)):K P c Q n D w0 G L:=fun a w ha hw=>by
 obtain⟨x,hx⟩:=hs w hw;exact h x a w ha hx
theorem KO.bV{α:Sort _}{F:α->List HP}(hs:∀w,St w0 L w->∃x,St w0 (F x) w)(h:∀x,KO P ops d Q n D w0 G (F x) l):KO P ops d Q n D w0 G L l:=fun a w ha hw=>by
 obtain⟨x,hx⟩:=hs w hw;exact h x a w ha hx
def QQ {α:Type} (n:Nat) (D:List Deferred) (w0:World) (E:α->Env) (H:α->List HP) (φ:α->Prop) (m:α->Nat) (x:α) (a:Act) (w:World):Prop:=
 ∃y,φ y/\m y<m x/\cD n D (E y) a/\St w0 (H y) w
theorem K.loop{α:Type}(E:α->Env)(H:α->List HP)(φ:α->Prop)(m:α->Nat)(x0:α)(h0:φ x0)(hG:EY G (E x0))(hL:∀w,St w0 L w->St w0 (H x0) w)(round:∀x,φ x->K P c (Exit.then (QQ n D w0 E H φ m x) Q) n D w0 (E x) (H x)):K P (.loop c) Q n D w0 G L:=fun a w ha hw=>by
 have key:∀(N:Nat) (x:α) (a:Act) (w:World),m x<N->φ x->cD n D (E x) a->St w0 (H x) w->Code.rounds P c Q N a w:=by
  intro N
  induction N with
  |zero=>intro x a w h;omega
  |succ N ih=>
   intro x a w dN hx ha hw;rw[rounds_succ];refine Go.wp_mono (round x hx a w ha hw) fun e a w hq=>?_
   cases e with
   |normal=>
    obtain⟨y,hy,Wr,sN,hw'⟩:=hq;exact ih y a w ae hy sN hw'
   |_=>exact hq
 exact wp_loop_rounds (m x0+1) (key _ x0 a w (Nat.lt_succ_self _) h0 (ha.sub hG) (hL w hw))
theorem KQ.round{α:Type}{E:α->Env}{H:α->List HP}{φ:α->Prop}{m:α->Nat}{x:α}(y:α)(hy:φ y)(hm:m y<m x)(hG:EY G (E y))(hL:∀w,St w0 L w->St w0 (H y) w):
 KQ (Exit.then (QQ n D w0 E H φ m x) Q) .normal n D w0 G L:=fun _ w ha hw=>⟨y,hy,hm,ha.sub hG,hL w hw⟩
end
def KC (P:Program) (f:FuncId) (args:Array Value) (w0:World) (L:List HP) (R:Value->List HP->Prop):Prop:=
 ∀w,St w0 L w->Calls P f args w fun e w'=> ∃v L',e=.returned v/\R v L'/\St w0 L' w'
def KE (P:Program) (f:FuncId) (args:Array Value) (w0:World) (L:List HP) (R:Value->List HP->Prop):Prop:=
 ∀w,St w0 L w->Calls P f args w fun e w'=> ∃v L',e=.returned v/\R v L'/\St w0 L' w'/\Below w.heap.size w w'
def KP (P:Program) (f:FuncId) (args:Array Value) (w0:World) (L:List HP) (R:Ending->List HP->Prop):Prop:=
 ∀w,St w0 L w->Calls P f args w fun e w'=> ∃L',R e L'/\St w0 L' w'
def agA (w0:World) (R:Value->List HP->Prop):Ending->World->Prop:=fun e w'=> ∃v L',e=.returned v/\R v L'/\St w0 L' w'
section
variable {P:Program} {f:FuncId} {args:Array Value} {w0:World} {L:List HP} {R R':Value->List HP->Prop}
theorem KE.mono(h:KE P f args w0 L R)(hr:∀v L',R v L'->R' v L'):KE P f args w0 L R':=fun w hw=>(h w hw).mono fun _ _ ⟨v,L',a,b,c⟩=>⟨v,L',a,hr _ _ b,c⟩
theorem KC.mk{fn:Func}{c:Code}{n:Nat}(hf:P.funcs[f]? =some fn)(hb:fn.body=some c)(hn:fn.ntmps=n)(dM:args.size<=n)(h:K P c (bodyPost P fn (agA w0 R)) n [] w0 (qm 0 args.toList) L):KC P f args w0 L R:=fun w hw=>by
 subst hn;exact calls_of_wp hf hb (h _ w (cD.enter dM) hw)
theorem KE.mk{fn:Func}{c:Code}{n:Nat}(hf:P.funcs[f]? =some fn)(hb:fn.body=some c)(hn:fn.ntmps=n)(dM:args.size<=n)(h:∀w,St w0 L w->K P c (bodyPost P fn fun e w'=> ∃v L',e=.returned v/\R v L'/\St w0 L' w'/\Below w.heap.size w w') n [] w (qm 0 args.toList) []):KE P f args w0 L R:=fun w hw=>by
 subst hn;exact calls_of_wp hf hb (h w hw _ w (cD.enter dM) (St.init w))
end
section
variable {P:Program} {fn:Func} {R:Ending->World->Prop} {n:Nat} {w0:World} {G:Env} {L:List HP} {v v1 v2 v3:Value} {t t1 t2 t3:Nat}
theorem aep(hr:fn.results=#[.tmp t])(hv:cB G t=some v)(a:Act)(w:World)(ha:cD n [] G a):(results fn a.tmps).run P w=.ok v w:=by
 rw[results_tmp hr];simp[Array.getD_eq_getD_getElem?,ha.get _ _ hv]
theorem aeo(hr:fn.results=#[.tmp t1,.tmp t2])(h1:cB G t1=some v1)(h2:cB G t2=some v2)(a:Act)(w:World)(ha:cD n [] G a):(results fn a.tmps).run P w=.ok (.tuple #[v1,v2]) w:=by
 rw[results_tmp2 hr];simp[Array.getD_eq_getD_getElem?,ha.get _ _ h1,ha.get _ _ h2]
theorem aen(hr:fn.results=#[.tmp t1,.tmp t2,.tmp t3])(h1:cB G t1=some v1)(h2:cB G t2=some v2)(h3:cB G t3=some v3)(a:Act)(w:World)(ha:cD n [] G a):
 (results fn a.tmps).run P w=.ok (.tuple #[v1,v2,v3]) w:=by
 rw[results_tmp3 hr];simp[Array.getD_eq_getD_getElem?,ha.get _ _ h1,ha.get _ _ h2,ha.get _ _ h3]
theorem KQ.fin(hr:∀a w,cD n [] G a->St w0 L w->(results fn a.tmps).run P w=.ok v w)(h:∀w,St w0 L w->R (.returned v) w):KQ (bodyPost P fn R) .ret n [] w0 G L:=fun a w ha hw=>⟨ha.defers,v,hr a w ha hw,h w hw⟩
theorem KQ.af_(hr:∀a w,cD n [] G a->St w0 L w->(results fn a.tmps).run P w=.ok v w)(h:∀w,St w0 L w->R (.returned v) w):KQ (bodyPost P fn R) .normal n [] w0 G L:=fun a w ha hw=>⟨ha.defers,v,hr a w ha hw,h w hw⟩
theorem KQ.aU(hr:fn.results=#[.tmp t])(hv:cB G t=some v)(h:∀w,St w0 L w->R (.returned v) w):KQ (bodyPost P fn R) .ret n [] w0 G L:=
 KQ.fin (fun a w ha _=>aep hr hv a w ha) h
theorem KQ.dG(hr:fn.results=#[.tmp t1,.tmp t2])(h1:cB G t1=some v1)(h2:cB G t2=some v2)(h:∀w,St w0 L w->R (.returned (.tuple #[v1,v2])) w):KQ (bodyPost P fn R) .ret n [] w0 G L:=
 KQ.fin (fun a w ha _=>aeo hr h1 h2 a w ha) h
theorem KQ.rj(hr:fn.results=#[.tmp t1,.tmp t2,.tmp t3])(h1:cB G t1=some v1)(h2:cB G t2=some v2)(h3:cB G t3=some v3)(h:∀w,St w0 L w->R (.returned (.tuple #[v1,v2,v3])) w):KQ (bodyPost P fn R) .ret n [] w0 G L:=
 KQ.fin (fun a w ha _=>aen hr h1 h2 h3 a w ha) h
theorem KQ.VL(hr:fn.results=#[])(h:∀w,St w0 L w->R (.returned (.tuple #[])) w):KQ (bodyPost P fn R) .ret n [] w0 G L:=
 KQ.fin (fun a w _ _=>results_none hr a.tmps P w) h
theorem KQ.wV(hr:fn.results=#[])(h:∀w,St w0 L w->R (.returned (.tuple #[])) w):KQ (bodyPost P fn R) .normal n [] w0 G L:=
 KQ.af_ (fun a w _ _=>results_none hr a.tmps P w) h
end
section
variable {P:Program} {ops:Array Oper} {d:Bool} {Q:Exit->Act->World->Prop} {n:Nat} {D:List Deferred} {w0:World} {G:Env} {L R:List HP} {l:List (Kd×Oper)} {k:Kd}
 {t:Nat} {op:Op} {ty T T' E:TypeId} {pos:String} {af:Array Edge} {x y z:Operand} {v u:Value} {b b':Bool} {i j off:Nat} {a c:Int} {ad:Addr} {g:Option (Nat×Bool)} {dst:Option Nat}
theorem KO.MX(h:∀a,cD n D G a->Region.wanted ⟨dst,op,ty,pos,af,g⟩ (yielded ops a.tmps)=true)(hk:KO P ops d Q n D w0 G L ((k,⟨dst,op,ty,pos,af,none⟩)::l)):
 KO P ops d Q n D w0 G L ((k,⟨dst,op,ty,pos,af,g⟩)::l):=fun a w ha hw=>by
 have h1:=h a ha;have h2:=hk a w ha hw;have h0:Region.wanted ⟨dst,op,ty,pos,af,none⟩ (yielded ops a.tmps)=true:=rfl;cases d with
 |true=>
  change ja _ _ _ _ _ _ at h2
  show ja _ _ _ _ _ _
  by_cases hl:k.o0=true
  ·rw[ek hl h0]at h2;rw[ek hl h1];exact h2
  ·cases k with
   |ef=>rw[hU h0]at h2;rw[hU h1];exact h2
   |write=>rw[eJ h0]at h2;rw[eJ h1];exact h2
   |_=>exact absurd rfl hl
 |false=>
  simp only[Ko,aJ,wpList,h0,h1,if_true]at h2 ⊢;exact h2
theorem uy{a:Act}(ha:cD n D G a)(hj:(ops[j]?).bind (·.dst)=some t)(hb:cB G t=some (.bool b)):Region.wanted ⟨dst,op,ty,pos,af,some (j,b')⟩ (yielded ops a.tmps)=(b==b'):=by
 simp only[Region.wanted,yielded,hj,Option.bind_some,ha.get _ _ hb];cases b<;>cases b'<;>rfl
theorem KO.on(hj:(ops[j]?).bind (·.dst)=some t)(hb:cB G t=some (.bool b))(he:b=b')(hk:KO P ops d Q n D w0 G L ((k,⟨dst,op,ty,pos,af,none⟩)::l)):
 KO P ops d Q n D w0 G L ((k,⟨dst,op,ty,pos,af,some (j,b')⟩)::l):=KO.MX (fun _ ha=>by rw[uy ha hj hb,he];simp) hk
theorem iI{a:Act}(ha:cD n D G a)(v:Value)(ht:Nat.blt t n=true):cD n D ((t,v)::G) (a.put (some t) v):=ha.put t v (by simpa[Nat.blt_eq]using ht)
theorem KO.no{s:Nat}(hj:(ops[j]?).bind (·.dst)=some s)(hb:cB G s=some (.bool b))(he:b= !b')(ht:Nat.blt t n=true)(hk:KO P ops d Q n D w0 ((t,undef)::G) L l):
 KO P ops d Q n D w0 G L ((k,⟨some t,op,ty,pos,af,some (j,b')⟩)::l):=fun a w ha hw=>
 Fl (by rw[uy ha hj hb,he];cases b'<;>rfl) (hk _ w (iI ha undef ht) hw)
theorem DM{a:Act}(ha:cD n D G a)(hj:(ops[j]?).bind (·.dst)=some t)(hb:cB G t=some undef):Region.wanted ⟨dst,op,ty,pos,af,some (j,b')⟩ (yielded ops a.tmps)=false:=by
 simp only[Region.wanted,yielded,hj,Option.bind_some,ha.get _ _ hb];cases b'<;>rfl
theorem KO.ZV{s:Nat}(hj:(ops[j]?).bind (·.dst)=some s)(hb:cB G s=some undef)(ht:Nat.blt t n=true)(hk:KO P ops d Q n D w0 ((t,undef)::G) L l):
 KO P ops d Q n D w0 G L ((k,⟨some t,op,ty,pos,af,some (j,b')⟩)::l):=fun a w ha hw=>
 Fl (DM ha hj hb) (hk _ w (iI ha undef ht) hw)
theorem KO.val(hv:∀a w,cD n D G a->(execOp a.eval ⟨some t,op,ty,pos,af,none⟩).run P w=.ok (.value v) w)(ht:Nat.blt t n=true)(h:KO P ops d Q n D w0 ((t,v)::G) L l):
 KO P ops d Q n D w0 G L ((k,⟨some t,op,ty,pos,af,none⟩)::l):=fun a w ha hw=>Rx rfl (fun w'=>hv a w' ha) (h _ w (iI ha v ht) hw)
theorem KO.rd(hk:(!d||k != .pure)=true)(hv:∀a w w',cD n D G a->St w0 L w->Ext w w'->(execOp a.eval ⟨some t,op,ty,pos,af,none⟩).run P w'=.ok (.value v) w')(ht:Nat.blt t n=true)(h:KO P ops d Q n D w0 ((t,v)::G) L l):
 KO P ops d Q n D w0 G L ((k,⟨some t,op,ty,pos,af,none⟩)::l):=fun a w ha hw=>NU hk rfl (fun w' e=>hv a w w' ha hw e) (h _ w (iI ha v ht) hw)
def evF (G:Env) (x:Operand):Value:=(ev G x).getD undef
theorem KO.mv(hx:ev G x=some v)(ht:Nat.blt t n=true)(h:KO P ops d Q n D w0 ((t,v)::G) L l):KO P ops d Q n D w0 G L ((k,⟨some t,.move x,ty,pos,af,none⟩)::l):=
 KO.val (fun a w ha=>by simp[execOp,ha.eval hx]) ht h
theorem KO.as(hx:ev G x=some v)(ht:Nat.blt t n=true)(h:KO P ops d Q n D w0 ((t,v)::G) L l):KO P ops d Q n D w0 G L ((k,⟨some t,.assign x,ty,pos,af,none⟩)::l):=
 KO.val (fun a w ha=>by simp[execOp,ha.eval hx]) ht h
theorem KO.pick(hx:ev G x=some (.bool b))(hv:(if b then ev G y else ev G z)=some v)(ht:Nat.blt t n=true)(h:KO P ops d Q n D w0 ((t,v)::G) L l):KO P ops d Q n D w0 G L ((k,⟨some t,.pick x y z,ty,pos,af,none⟩)::l):=
 KO.val (fun a w ha=>by
  cases b with
  |true=>simp only[if_true]at hv;simp[execOp,ha.eval hx,ha.eval hv,asBool]
  |false=>simp only[Bool.false_eq_true,if_false]at hv;simp[execOp,ha.eval hx,ha.eval hv,asBool]) ht h
theorem KO.nc(hx:ev G x=some (.pointer (some ad)))(ht:Nat.blt t n=true)(h:KO P ops d Q n D w0 ((t,.pointer (some ad))::G) L l):KO P ops d Q n D w0 G L ((k,⟨some t,.nilCheck x,ty,pos,af,none⟩)::l):=
 KO.val (fun a w ha=>by simp[execOp,ha.eval hx]) ht h
theorem KO.aga{vs:Array Value}(hx:ev G x=some (.tuple vs))(hv:vs[i]? =some v)(ht:Nat.blt t n=true)(h:KO P ops d Q n D w0 ((t,v)::G) L l):KO P ops d Q n D w0 G L ((k,⟨some t,.extract x i,ty,pos,af,none⟩)::l):=
 KO.val (fun a w ha=>by simp[execOp,ha.eval hx,Instr.extract,hv]) ht h
theorem KO.PS{vs:List Value}(hx:ev G x=some (.tuple vs.toArray))(hv:vs[i]? =some v)(ht:Nat.blt t n=true)(h:KO P ops d Q n D w0 ((t,v)::G) L l):KO P ops d Q n D w0 G L ((k,⟨some t,.extract x i,ty,pos,af,none⟩)::l):=
 KO.aga hx (by simpa using hv) ht h
theorem KO.mki(hx:ev G x=some v)(hc:P.concrete T=true)(ht:Nat.blt t n=true)(h:KO P ops d Q n D w0 ((t,.iface T v)::G) L l):KO P ops d Q n D w0 G L ((k,⟨some t,.makeInterface T x,ty,pos,af,none⟩)::l):=
 KO.val (fun a w ha=>by simp[execOp,ha.eval hx,run_makeInterface _ _ _ hc]) ht h
theorem KO.mkf{f:Fn}{xs ys:Array Operand}{us vs:Array Value}(h1:xs.toList.map (ev G)=us.toList.map some)(h2:ys.toList.map (ev G)=vs.toList.map some)(ht:Nat.blt t n=true)(h:KO P ops d Q n D w0 ((t,.func f us vs)::G) L l):
 KO P ops d Q n D w0 G L ((k,⟨some t,.makeFunc f xs ys,ty,pos,af,none⟩)::l):=
 KO.val (fun a w ha=>by
  have key:∀(xs:List Operand) (us:List Value),xs.map (ev G)=us.map some->xs.map a.eval=us:=by
   intro xs
   induction xs with
   |nil=>intro us h;cases us with|nil=>rfl|cons _ _=>simp at h
   |cons x xs ih=>intro us h;cases us with
    |nil=>simp at h
    |cons u us=>simp only[aJ,List.cons.injEq]at h ⊢;exact⟨ha.eval h.1,ih us h.2⟩
  have e1:xs.map a.eval=us:=by apply Array.ext';simpa using key _ _ h1
  have e2:ys.map a.eval=vs:=by apply Array.ext';simpa using key _ _ h2
  simp[execOp,Instr.makeFunc,e1,e2]) ht h
theorem KO.fld{fs:Array Field}{f:Nat}{fd:Field}{sz:Nat}(hx:ev G x=some (.pointer (some ad)))(hu:∀w,(underlying T).run P w=.ok (.struct fs) w)(hf:fs[f]? =some fd)(hs:∀w,(Go.sizeOf fd.type).run P w=.ok (sz+1) w)(ht:Nat.blt t n=true)(h:KO P ops d Q n D w0 ((t,.pointer (some (ad.add fd.offset)))::G) L l):KO P ops d Q n D w0 G L ((k,⟨some t,.fieldAddr T x f,ty,pos,af,none⟩)::l):=
 KO.val (fun a w ha=>by simp[execOp,ha.eval hx,Instr.fieldAt,hu w,hf,Instr.sureAddr,fieldPlace,hs w]) ht h
theorem KO.idx{g:Nat}{o len cap sz:Nat}{kk:IntKind}(hx:ev G x=some (.slice (some ⟨g,o,none⟩) len cap))(hy:ev G y=some (.int kk a))(hu:∀w,(underlying T).run P w=.ok (.slice E) w)(hs:∀w,(Go.sizeOf E).run P w=.ok sz w)(ha:a=(i:Int))(hb:i<len)(ht:Nat.blt t n=true)(h:KO P ops d Q n D w0 ((t,.pointer (some ⟨g,o+i *sz,none⟩))::G) L l):KO P ops d Q n D w0 G L ((k,⟨some t,.indexAddr T x y,ty,pos,af,none⟩)::l):=
 KO.val (fun a' w sN=>by
  subst ha;have :(0:Int)<=(i:Int)/\(i:Int)<(len:Int):=⟨by omega,by omega⟩
  simp[execOp,sN.eval hx,sN.eval hy,Instr.indexAt,hu w,asIntOf,hs w,hb,Addr.add_lit]) ht h
theorem KO.jd{len sz:Nat}{kk:IntKind}(hx:ev G x=some (.pointer (some ad)))(hy:ev G y=some (.int kk a))(hu:∀w,(underlying T).run P w=.ok (.array len E) w)(hs:∀w,(Go.sizeOf E).run P w=.ok sz w)(ha:a=(i:Int))(hb:i<len)(ht:Nat.blt t n=true)(h:KO P ops d Q n D w0 ((t,.pointer (some (ad.add (i *sz))))::G) L l):KO P ops d Q n D w0 G L ((k,⟨some t,.indexAddr T x y,ty,pos,af,none⟩)::l):=
 KO.val (fun a' w sN=>by
  subst ha
  simp[execOp,sN.eval hx,sN.eval hy,Instr.indexAt,hu w,asIntOf,hs w,hb,Instr.sureAddr]) ht h
theorem KO.ld{b:Nat}{cs:List Value}{fz:Nat×Nat}(hk:(!d||k != .pure)=true)(hx:ev G x=some (.pointer (some ⟨b,off,none⟩)))(hT:∀w,(isAgg T).run P w=.ok false w)(hp:bB L (bA b (.cells cs.toArray E fz)) R)(hc:cs[off]? =some v)(ht:Nat.blt t n=true)(h:KO P ops d Q n D w0 ((t,v)::G) L l):KO P ops d Q n D w0 G L ((k,⟨some t,.load T x,ty,pos,af,none⟩)::l):=
 KO.rd hk (fun a w w' ha hw e=>by
  have eM:w.cell? ⟨b,off,none⟩=some v:=by rw[World.cell?,(hw.nD hp).2];simpa using hc
  simp[execOp,ha.eval hx,Instr.loadAt,Instr.sureAddr,gp (hT w') (e.cell eM)]) ht h
theorem KO.sl(hk:(!d||k != .pure)=true)(hx:ev G x=some (.pointer (some ad)))(hT:∀w,(isAgg T).run P w=.ok false w)(hc:w0.cell? ad=some v)(ht:Nat.blt t n=true)(h:KO P ops d Q n D w0 ((t,v)::G) L l):KO P ops d Q n D w0 G L ((k,⟨some t,.load T x,ty,pos,af,none⟩)::l):=
 KO.rd hk (fun a w w' ha hw e=>by
  simp[execOp,ha.eval hx,Instr.loadAt,Instr.sureAddr,gp (hT w') (e.cell ((Ext.bU hw.below).cell hc))]) ht h
theorem KO.Sy(hk:(!d||k != .pure)=true)(hx:ev G x=some (.pointer (some ad)))(hT:∀w,(isAgg T).run P w=.ok false w)(hc:∀w,St w0 L w->w.cell? ad=some v)(ht:Nat.blt t n=true)(h:KO P ops d Q n D w0 ((t,v)::G) L l):KO P ops d Q n D w0 G L ((k,⟨some t,.load T x,ty,pos,af,none⟩)::l):=
 KO.rd hk (fun a w w' ha hw e=>by
  simp[execOp,ha.eval hx,Instr.loadAt,Instr.sureAddr,gp (hT w') (e.cell (hc w hw))]) ht h
theorem KO.QW{cs:Array Value}{sz:Nat}(hk:(!d||k != .pure)=true)(hx:ev G x=some (.pointer (some ad)))(hT:∀w,(isAgg T).run P w=.ok true w)(hn:∀w,(Go.sizeOf T).run P w=.ok sz w)(dM:cs.size=sz)(hc:∀w,St w0 L w->cz w ad cs.toList)(ht:Nat.blt t n=true)(h:KO P ops d Q n D w0 ((t,.agg cs)::G) L l):KO P ops d Q n D w0 G L ((k,⟨some t,.load T x,ty,pos,af,none⟩)::l):=
 KO.rd hk (fun a w w' ha hw e=>by
  have :=pS (P:=P) (hT w') (by rw[hn w',<-dM];rfl) ((hc w hw).ext e)
  simp[execOp,ha.eval hx,Instr.loadAt,Instr.sureAddr,this]) ht h
theorem KO.I6{b:Nat}{cs:List Value}{us:List Value}{fz:Nat×Nat}{sz:Nat}(hk:(!d||k != .pure)=true)(hx:ev G x=some (.pointer (some ⟨b,off,none⟩)))(hT:∀w,(isAgg T).run P w=.ok true w)(hn:∀w,(Go.sizeOf T).run P w=.ok sz w)(hp:bB L (bA b (.cells cs.toArray E fz)) R)(hu:(cs.drop off).take sz=us)(dM:us.length=sz)(ht:Nat.blt t n=true)(h:KO P ops d Q n D w0 ((t,.agg us.toArray)::G) L l):KO P ops d Q n D w0 G L ((k,⟨some t,.load T x,ty,pos,af,none⟩)::l):=
 KO.QW hk hx hT hn (by simpa using dM) (fun w hw j c hj=>by
  have hlk:=(hw.nD hp).2;rw[show(us.toArray).toList=us from rfl,<-hu,List.getElem?_take]at hj;split at hj
  ·rw[List.getElem?_drop]at hj;rw[Addr.add_lit,World.cell?,hlk];simpa using hj
  ·simp at hj) ht h
theorem KO.rZ(hk:(!d||(k== .ef||k== .write))=true){F:Nat->Value}{N:Nat->List HP}(hr:∀a w,cD n D G a->St w0 L w->∃bb w',(execOp a.eval ⟨some t,op,ty,pos,af,none⟩).run P w=.ok (.value (F bb)) w'/\Ext w w'/\St w0 (N bb) w')(ht:Nat.blt t n=true)(h:∀bb,KO P ops d Q n D w0 ((t,F bb)::G) (N bb) l):KO P ops d Q n D w0 G L ((k,⟨some t,op,ty,pos,af,none⟩)::l):=fun a w ha hw=>by
 obtain⟨bb,w',hr,he,hs⟩:=hr a w ha hw;refine Fm hk rfl ?_;unfold Oper.wp;rw[hr];exact⟨he,h bb _ w' (iI ha _ ht) hs⟩
theorem KO.box(hk:(!d||(k== .ef||k== .write))=true){cs:List Value}(hx:ev G x=some v)(hc:v.cells=cs.toArray)(ht:Nat.blt t n=true)(h:∀bb,KO P ops d Q n D w0 ((t,.pointer (some ⟨bb,0,none⟩))::G) (bA bb (.cells cs.toArray E (0,0))::L) l):KO P ops d Q n D w0 G L ((k,⟨some t,.box E x,ty,pos,af,none⟩)::l):=
 KO.rZ hk (F:=fun bb=>.pointer (some ⟨bb,0,none⟩)) (N:=fun bb=>bA bb (.cells cs.toArray E (0,0))::L) (fun a w ha hw=>⟨w.heap.size,w.alloc (.cells cs.toArray E),by simp[execOp,ha.eval hx,Instr.box,newVar,newRow,hc],Ext.alloc w _,hw.alloc _⟩) ht h
theorem KO.alloc(hk:(!d||(k== .ef||k== .write))=true){cs:List Value}(hz:∀w,(zeroValue E).run P w=.ok v w)(hc:v.cells=cs.toArray)(ht:Nat.blt t n=true)(h:∀bb,KO P ops d Q n D w0 ((t,.pointer (some ⟨bb,0,none⟩))::G) (bA bb (.cells cs.toArray E (0,0))::L) l):KO P ops d Q n D w0 G L ((k,⟨some t,.alloc E,ty,pos,af,none⟩)::l):=
 KO.rZ hk (F:=fun bb=>.pointer (some ⟨bb,0,none⟩)) (N:=fun bb=>bA bb (.cells cs.toArray E (0,0))::L) (fun a w ha hw=>⟨w.heap.size,w.alloc (.cells cs.toArray E),by simp[execOp,Instr.alloc,newVar,newRow,hz w,hc],Ext.alloc w _,hw.alloc _⟩) ht h
theorem KO.Fe(hk:(!d||k== .write)=true){N:List HP}(hr:∀a w,cD n D G a->St w0 L w->∃w',(execOp a.eval ⟨none,op,ty,pos,af,none⟩).run P w=.ok .skip w'/\St w0 N w')(h:KO P ops d Q n D w0 G N l):KO P ops d Q n D w0 G L ((k,⟨none,op,ty,pos,af,none⟩)::l):=fun a w ha hw=>by
 obtain⟨w',hr,hs⟩:=hr a w ha hw;refine mO hk rfl ?_;unfold Oper.wp;rw[hr];exact h _ w' ha hs
theorem KO.st{b:Nat}{cs Dv us:List Value}(hk:(!d||k== .write)=true)(hx:ev G x=some (.pointer (some ⟨b,off,none⟩)))(hy:ev G y=some v)(hv:v.cells=us.toArray)(hn:∀w,(Go.sizeOf T).run P w=.ok us.length w)(h1:∀u∈us,u.oneCell'=true)(hp:bB L (bA b (.cells cs.toArray E (0,0))) R)(o9:off+us.length<=cs.length)(hc:cs.take off++us++cs.drop (off+us.length)=Dv)(h:KO P ops d Q n D w0 G (bA b (.cells Dv.toArray E (0,0))::R) l):
 KO P ops d Q n D w0 G L ((k,⟨none,.store T x y,ty,pos,af,none⟩)::l):=
 KO.Fe hk (N:=bA b (.cells Dv.toArray E (0,0))::R) (fun a w ha hw=>by
  have hb:=hw.pick hp;have gP:=ll (P:=P) (T:=T) (off:=off) (v:=v) hb (by simpa[hv]using hn w) (by simpa[hv]using o9) (by simpa[hv]using h1);refine⟨_,?_,hb.setRow (c':=Dv.toArray)⟩;simp only[hv,hc]at gP
  simp[execOp,ha.eval hx,ha.eval hy,Instr.storeAt,Instr.sureAddr,gP]) h
end
theorem Fc{r:Int}(h1: -9223372036854775808<=r)(h2:r<=9223372036854775807):IntKind.i64.wrap r=r:=by
 unfold IntKind.wrap;simp only[IntKind.bits,IntKind.signed,Bool.true_and];simp only[show(2^64:Int)=18446744073709551616 from rfl,show(2^(64-1):Int)=9223372036854775808 from rfl];by_cases h:r%18446744073709551616>=9223372036854775808
 ·rw[if_pos Ic];omega
 ·rw[if_neg Ic];omega
theorem Ul{r:Int}(h1:0<=r)(h2:r<=18446744073709551615):IntKind.u64.wrap r=r:=by
 unfold IntKind.wrap;simp only[IntKind.bits,IntKind.signed,Bool.false_and];simp only[show(2^64:Int)=18446744073709551616 from rfl];rw[if_neg ai];omega
section
variable {P:Program} {ops:Array Oper} {d:Bool} {Q:Exit->Act->World->Prop} {n:Nat} {D:List Deferred} {w0:World} {G:Env} {L R:List HP} {l:List (Kd×Oper)} {k:Kd}
 {t:Nat} {op:Op} {ty T T' E:TypeId} {pos:String} {af:Array Edge} {x y z:Operand} {v u:Value} {b b' p q:Bool} {i j off:Nat} {a c r:Int} {ad:Addr} {kk:IntKind}
theorem KO.add(hx:ev G x=some (.int .i64 a))(hy:ev G y=some (.int .i64 c))(hr:a+c=r)(h1: -9223372036854775808<=r/\r<=9223372036854775807)(ht:Nat.blt t n=true)(h:KO P ops d Q n D w0 ((t,.int .i64 r)::G) L l):KO P ops d Q n D w0 G L ((k,⟨some t,.binOp .add T x y T',ty,pos,af,none⟩)::l):=
 KO.val (fun a w ha=>by simp[execOp,ha.eval hx,ha.eval hy,eqGuard_at_int,binOp_add,Op.intArith,hr,Fc h1.1 h1.2]) ht h
theorem KO.sub(hx:ev G x=some (.int .i64 a))(hy:ev G y=some (.int .i64 c))(hr:a-c=r)(h1: -9223372036854775808<=r/\r<=9223372036854775807)(ht:Nat.blt t n=true)(h:KO P ops d Q n D w0 ((t,.int .i64 r)::G) L l):KO P ops d Q n D w0 G L ((k,⟨some t,.binOp .sub T x y T',ty,pos,af,none⟩)::l):=
 KO.val (fun a w ha=>by simp[execOp,ha.eval hx,ha.eval hy,eqGuard_at_int,binOp_sub,Op.intArith,hr,Fc h1.1 h1.2]) ht h
theorem KO.mul(hx:ev G x=some (.int .i64 a))(hy:ev G y=some (.int .i64 c))(hr:a *c=r)(h1: -9223372036854775808<=r/\r<=9223372036854775807)(ht:Nat.blt t n=true)(h:KO P ops d Q n D w0 ((t,.int .i64 r)::G) L l):KO P ops d Q n D w0 G L ((k,⟨some t,.binOp .mul T x y T',ty,pos,af,none⟩)::l):=
 KO.val (fun a w ha=>by simp[execOp,ha.eval hx,ha.eval hy,eqGuard_at_int,binOp_mul,Op.intArith,hr,Fc h1.1 h1.2]) ht h
theorem KO.lss(hx:ev G x=some (.int kk a))(hy:ev G y=some (.int kk c))(ht:Nat.blt t n=true)(h:KO P ops d Q n D w0 ((t,.bool (decide (a<c)))::G) L l):
 KO P ops d Q n D w0 G L ((k,⟨some t,.binOp .lss T x y T',ty,pos,af,none⟩)::l):=
 KO.val (fun a w ha=>by simp[execOp,ha.eval hx,ha.eval hy,eqGuard_at_int,binOp_lss]) ht h
theorem KO.leq(hx:ev G x=some (.int kk a))(hy:ev G y=some (.int kk c))(ht:Nat.blt t n=true)(h:KO P ops d Q n D w0 ((t,.bool (decide (a<=c)))::G) L l):
 KO P ops d Q n D w0 G L ((k,⟨some t,.binOp .leq T x y T',ty,pos,af,none⟩)::l):=
 KO.val (fun a w ha=>by simp[execOp,ha.eval hx,ha.eval hy,eqGuard_at_int,binOp_leq]) ht h
theorem KO.gtr(hx:ev G x=some (.int kk a))(hy:ev G y=some (.int kk c))(ht:Nat.blt t n=true)(h:KO P ops d Q n D w0 ((t,.bool (decide (c<a)))::G) L l):
 KO P ops d Q n D w0 G L ((k,⟨some t,.binOp .gtr T x y T',ty,pos,af,none⟩)::l):=
 KO.val (fun a w ha=>by simp[execOp,ha.eval hx,ha.eval hy,eqGuard_at_int,binOp_gtr]) ht h
theorem KO.geq(hx:ev G x=some (.int kk a))(hy:ev G y=some (.int kk c))(ht:Nat.blt t n=true)(h:KO P ops d Q n D w0 ((t,.bool (decide (c<=a)))::G) L l):
 KO P ops d Q n D w0 G L ((k,⟨some t,.binOp .geq T x y T',ty,pos,af,none⟩)::l):=
 KO.val (fun a w ha=>by simp[execOp,ha.eval hx,ha.eval hy,eqGuard_at_int,binOp_geq]) ht h
theorem KO.eqI(hx:ev G x=some (.int kk a))(hy:ev G y=some (.int kk c))(ht:Nat.blt t n=true)(h:KO P ops d Q n D w0 ((t,.bool (decide (a=c)))::G) L l):
 KO P ops d Q n D w0 G L ((k,⟨some t,.binOp .eql T x y T',ty,pos,af,none⟩)::l):=
 KO.val (fun a' w ha=>by simp[execOp,ha.eval hx,ha.eval hy,eqGuard_at_int,binOp_eql,show(a==c)=decide (a=c)from rfl]) ht h
theorem KO.neI(hx:ev G x=some (.int kk a))(hy:ev G y=some (.int kk c))(ht:Nat.blt t n=true)(h:KO P ops d Q n D w0 ((t,.bool (decide (a≠c)))::G) L l):
 KO P ops d Q n D w0 G L ((k,⟨some t,.binOp .neq T x y T',ty,pos,af,none⟩)::l):=
 KO.val (fun a' w ha=>by
  have e:(a !=c)=decide (a≠c):=by by_cases h:a=c<;>simp[h]
  simp only[execOp,ha.eval hx,ha.eval hy,eqGuard_at_int,binOp_neq,e,Sem.run_bind,Sem.run_pure,Result.andThen_ok]) ht h
theorem KO.not(hx:ev G x=some (.bool b))(ht:Nat.blt t n=true)(h:KO P ops d Q n D w0 ((t,.bool (!b))::G) L l):KO P ops d Q n D w0 G L ((k,⟨some t,.unOp .not T x,ty,pos,af,none⟩)::l):=
 KO.val (fun a' w ha=>by simp[execOp,ha.eval hx,unary_not]) ht h
theorem KO.neB(hx:ev G x=some (.bool p))(hy:ev G y=some (.bool q))(hT:P.underlying T=some .bool)(ht:Nat.blt t n=true)(h:KO P ops d Q n D w0 ((t,.bool (!(p==q)))::G) L l):
 KO P ops d Q n D w0 G L ((k,⟨some t,.binOp .neq T x y T',ty,pos,af,none⟩)::l):=
 KO.val (fun a' w ha=>by simp[execOp,ha.eval hx,ha.eval hy,eqGuard_at_bool,run_neq_bool w T p q hT]) ht h
variable {s s':aj}
theorem toList_eq_iff(s s':aj):(s.toList==s'.toList)=decide (s=s'):=by
 by_cases h:s=s'
 ·simp[h]
 ·have :s.toList≠s'.toList:=fun e=>h (by
   rw[ByteArray.toList_eq,ByteArray.toList_eq]at e
   exact ByteArray.ext (Array.ext' e))
  simp[h,this]
theorem KO.Ze(hx:ev G x=some (.string s))(hy:ev G y=some (.string s'))(ht:Nat.blt t n=true)(h:KO P ops d Q n D w0 ((t,.bool (decide (s=s')))::G) L l):
 KO P ops d Q n D w0 G L ((k,⟨some t,.binOp .eql T x y T',ty,pos,af,none⟩)::l):=
 KO.val (fun a' w ha=>by simp only[execOp,ha.eval hx,ha.eval hy,eqGuard_at_string,binOp_string_eql,toList_eq_iff,Sem.run_bind,Sem.run_pure,Result.andThen_ok]) ht h
theorem KO.neS(hx:ev G x=some (.string s))(hy:ev G y=some (.string s'))(ht:Nat.blt t n=true)(h:KO P ops d Q n D w0 ((t,.bool (!decide (s=s')))::G) L l):
 KO P ops d Q n D w0 G L ((k,⟨some t,.binOp .neq T x y T',ty,pos,af,none⟩)::l):=
 KO.val (fun a' w ha=>by simp only[execOp,ha.eval hx,ha.eval hy,eqGuard_at_string,binOp_string_neq,toList_eq_iff,Sem.run_bind,Sem.run_pure,Result.andThen_ok]) ht h
theorem KO.cat(hx:ev G x=some (.string s))(hy:ev G y=some (.string s'))(hs:s.size+s'.size<=9223372036854775807)(ht:Nat.blt t n=true)(h:KO P ops d Q n D w0 ((t,.string (s++s'))::G) L l):
 KO P ops d Q n D w0 G L ((k,⟨some t,.binOp .add T x y T',ty,pos,af,none⟩)::l):=
 KO.val (fun a' w ha=>by simp[execOp,ha.eval hx,ha.eval hy,eqGuard_at_string,binOp_string_add,run_string_add_sum w s s' hs]) ht h
theorem KO.aey(hx:ev G x=some (.string s))(hT:P.underlying T=some .string)(ht:Nat.blt t n=true)(h:KO P ops d Q n D w0 ((t,.int .i64 (s.size:Nat))::G) L l):
 KO P ops d Q n D w0 G L ((k,⟨some t,.call ⟨.builtin .len,#[x],#[T]⟩,ty,pos,af,none⟩)::l):=
 KO.val (fun a' w ha=>by simp[execOp,resolve,invoke,builtin,ha.eval hx,run_len_string _ _ _ _ hT,goInt]) ht h
theorem KO.len{bs:Option Addr}{len cap:Nat}(hx:ev G x=some (.slice bs len cap))(hT:P.underlying T=some (.slice E))(ht:Nat.blt t n=true)(h:KO P ops d Q n D w0 ((t,.int .i64 (len:Nat))::G) L l):
 KO P ops d Q n D w0 G L ((k,⟨some t,.call ⟨.builtin .len,#[x],#[T]⟩,ty,pos,af,none⟩)::l):=
 KO.val (fun a' w ha=>by simp[execOp,resolve,invoke,builtin,ha.eval hx,run_len_slice w T ty bs len cap (by rw[hT];simp[Program.elem,hT]),goInt]) ht h
theorem KO.gO{g:Nat}{len cap sz:Nat}(hx:ev G x=some (.slice (some ⟨g,0,none⟩) len cap))(hy:ev G y=some (.int kk a))(hu:∀w,(underlying T).run P w=.ok (.slice E) w)(hs:∀w,(Go.sizeOf E).run P w=.ok sz w)(ha:a=(i:Int))(hb:i<len)(ht:Nat.blt t n=true)(h:KO P ops d Q n D w0 ((t,.pointer (some ⟨g,i *sz,none⟩))::G) L l):KO P ops d Q n D w0 G L ((k,⟨some t,.indexAddr T x y,ty,pos,af,none⟩)::l):=
 KO.idx hx hy hu hs ha hb ht (by rw[Nat.zero_add];exact h)
theorem KO.fo{fs:Array Field}{f b o sz off:Nat}{fd:Field}(hx:ev G x=some (.pointer (some ⟨b,o,none⟩)))(hu:∀w,(underlying T).run P w=.ok (.struct fs) w)(hf:fs[f]? =some fd)(ho:fd.offset=off)(hs:∀w,(Go.sizeOf fd.type).run P w=.ok (sz+1) w)(ht:Nat.blt t n=true)(h:KO P ops d Q n D w0 ((t,.pointer (some ⟨b,o+off,none⟩))::G) L l):KO P ops d Q n D w0 G L ((k,⟨some t,.fieldAddr T x f,ty,pos,af,none⟩)::l):=
 KO.fld hx hu hf hs ht (by rw[Addr.add_lit,ho];exact h)
theorem KO.fG{fs:Array Field}{f b sz off:Nat}{fd:Field}(hx:ev G x=some (.pointer (some ⟨b,0,none⟩)))(hu:∀w,(underlying T).run P w=.ok (.struct fs) w)(hf:fs[f]? =some fd)(ho:fd.offset=off)(hs:∀w,(Go.sizeOf fd.type).run P w=.ok (sz+1) w)(ht:Nat.blt t n=true)(h:KO P ops d Q n D w0 ((t,.pointer (some ⟨b,off,none⟩))::G) L l):KO P ops d Q n D w0 G L ((k,⟨some t,.fieldAddr T x f,ty,pos,af,none⟩)::l):=
 KO.fo hx hu hf ho hs ht (by rw[Nat.zero_add];exact h)
theorem M9{a:Act}(ha:cD n D G a){xs:Array Operand}{vs:List Value}(h:xs.toList.map (ev G)=vs.map some):xs.map a.eval=vs.toArray:=by
 have key:∀(xs:List Operand) (us:List Value),xs.map (ev G)=us.map some->xs.map a.eval=us:=by
  intro xs
  induction xs with
  |nil=>intro us h;cases us with|nil=>rfl|cons _ _=>simp at h
  |cons x xs ih=>intro us h;cases us with
   |nil=>simp at h
   |cons u us=>simp only[aJ,List.cons.injEq]at h ⊢;exact⟨ha.eval h.1,ih us h.2⟩
 apply Array.ext';simpa using key _ _ h
theorem zp{a:Act}(ha:cD n D G a){f:FuncId}{xs:Array Operand}{ts:Array TypeId}{vs:List Value}{fi cp:Array Value}{dst:Option Nat}(hf:ev G x=some (.func (.func f) fi cp))(tG:xs.toList.map (ev G)=vs.map some){ar:Array Value}(Lb:fi++vs.toArray++cp=ar)(fI:∀args w,(callFunc f args).run P w=.ok (.enter f args) w)(w:World):(execOp a.eval ⟨dst,.call ⟨.value x,xs,ts⟩,ty,pos,af,none⟩).run P w=.ok (.enter f ar) w:=by
 have e:=M9 ha tG;simp only[execOp,resolve,ha.eval hf,Deferred.ofValue,e,invoke,Sem.run_bind,Sem.run_pure,Result.andThen_ok,fI,Lb]
theorem KO.call{f:FuncId}{xs:Array Operand}{ts:Array TypeId}{vs:List Value}{fi cp ar:Array Value}{Rr:Value->List HP->Prop}(hk:(!d||k== .write)=true)(hf:ev G x=some (.func (.func f) fi cp))(tG:xs.toList.map (ev G)=vs.map some)(Lb:fi++vs.toArray++cp=ar)(fI:∀args w,(callFunc f args).run P w=.ok (.enter f args) w)(ht:Nat.blt t n=true)(hc:KC P f ar w0 L Rr)(h:∀v L',Rr v L'->KO P ops d Q n D w0 ((t,v)::G) L' l):
 KO P ops d Q n D w0 G L ((k,⟨some t,.call ⟨.value x,xs,ts⟩,ty,pos,af,none⟩)::l):=fun a w ha hw=>by
 refine mO hk rfl ?_;unfold Oper.wp;rw[zp ha hf tG Lb fI];refine(hc w hw).mono ?_;rintro e w' ⟨v,L',rfl,hr,hs⟩;exact h v L' hr _ w' (iI ha v ht) hs
theorem KO.abH{f:FuncId}{xs:Array Operand}{ts:Array TypeId}{vs:List Value}{fi cp ar:Array Value}{Rr:Value->List HP->Prop}(hk:(!d||(k== .ef||k== .write))=true)(hf:ev G x=some (.func (.func f) fi cp))(tG:xs.toList.map (ev G)=vs.map some)(Lb:fi++vs.toArray++cp=ar)(fI:∀args w,(callFunc f args).run P w=.ok (.enter f args) w)(ht:Nat.blt t n=true)(hc:KE P f ar w0 L Rr)(h:∀v L',Rr v L'->KO P ops d Q n D w0 ((t,v)::G) L' l):
 KO P ops d Q n D w0 G L ((k,⟨some t,.call ⟨.value x,xs,ts⟩,ty,pos,af,none⟩)::l):=fun a w ha hw=>by
 refine Fm hk rfl ?_;unfold Oper.wp;rw[zp ha hf tG Lb fI];refine(hc w hw).mono ?_;rintro e w' ⟨v,L',rfl,hr,hs,hb⟩;exact⟨Ext.bU hb,h v L' hr _ w' (iI ha v ht) hs⟩
end
section
variable {P:Program} {f:FuncId} {args:Array Value} {w0:World} {L:List HP}
theorem KE.bU{v:Value}(h:∀w,St w0 L w->Calls P f args w fun e w'=>e=.returned v/\Below w.heap.size w w'):KE P f args w0 L (fun u L'=>u=v/\L'=L):=fun w hw=>
 (h w hw).mono fun _ _ ⟨he,hb⟩=>⟨v,L,he,⟨rfl,rfl⟩,hw.aA hb,hb⟩
end
def Li (G:Env):List Operand->Option (List Value)
 |[]=>some []
 |x::r=>match ev G x,Li G r with|some v,some vs=>some (v::vs)|_,_=>none
theorem qk{G:Env}:∀{xs:List Operand} {vs:List Value},Li G xs=some vs->xs.map (ev G)=vs.map some
 |[],vs,h=>by simp only[Li,az]at h;subst h;rfl
 |x::xs,vs,h=>by
  unfold Li at h;cases h1:ev G x with
  |none=>rw[h1]at h;simp at h
  |some v=>
   cases h2:Li G xs with
   |none=>rw[h1,h2]at h;simp at h
   |some us=>
    rw[h1,h2]at h;simp only[az]at h;subst h;simp[h1,qk h2]
def pY:Nat->List Value->List Value->List Value
 |0,us,cs=>us++cs.drop us.length
 |i+1,us,c::cs=>c::pY i us cs
 |_+1,_,[]=>[]
theorem yB:∀(i:Nat) (us cs:List Value),i+us.length<=cs.length->cs.take i++us++cs.drop (i+us.length)=pY i us cs
 |0,us,cs,_=>by simp[pY]
 |i+1,us,c::cs,h=>by
  have :=yB i us cs (by simp at h;omega);simp only[pY,List.take_succ_cons,bz,show i+1+us.length=(i+us.length)+1 by omega,List.drop_succ_cons,<-this]
 |i+1,us,[],h=>by simp at h
def age:Value->List Value:=fun v=>v.cells.toList
section
variable {P:Program} {ops:Array Oper} {d:Bool} {Q:Exit->Act->World->Prop} {n:Nat} {D:List Deferred} {w0:World} {G:Env} {L R:List HP} {l:List (Kd×Oper)} {k:Kd}
 {t:Nat} {op:Op} {ty T T' E:TypeId} {pos:String} {af:Array Edge} {x y z:Operand} {v u:Value} {b b' p q:Bool} {i j off:Nat} {a c r:Int} {ad:Addr} {kk:IntKind}
theorem KO.N6{b:Nat}{cs Dv us:List Value}(hk:(!d||k== .write)=true)(hx:ev G x=some (.pointer (some ⟨b,off,none⟩)))(hy:ev G y=some v)(hv:v.cells=us.toArray)(hn:∀w,(Go.sizeOf T).run P w=.ok us.length w)(h1:us.all Value.oneCell'=true)(hp:bB L (bA b (.cells cs.toArray E (0,0))) R)(o9:Nat.ble (off+us.length) cs.length=true)(hc:pY off us cs=Dv)(h:KO P ops d Q n D w0 G (bA b (.cells Dv.toArray E (0,0))::R) l):
 KO P ops d Q n D w0 G L ((k,⟨none,.store T x y,ty,pos,af,none⟩)::l):=
 have hf:off+us.length<=cs.length:=by simpa[Nat.ble_eq]using o9
 KO.st hk hx hy hv hn (fun u hu=>aL.1 h1 u hu) hp hf ((yB _ _ _ hf).trans hc) h
theorem KO.oW(hx:ev G x=some (.bool b))(hb:b=true)(hv:ev G y=some v)(ht:Nat.blt t n=true)(h:KO P ops d Q n D w0 ((t,v)::G) L l):KO P ops d Q n D w0 G L ((k,⟨some t,.pick x y z,ty,pos,af,none⟩)::l):=
 KO.pick hx (by rw[hb];exact hv) ht h
theorem KO.lB(hx:ev G x=some (.bool b))(hb:b=false)(hv:ev G z=some v)(ht:Nat.blt t n=true)(h:KO P ops d Q n D w0 ((t,v)::G) L l):KO P ops d Q n D w0 G L ((k,⟨some t,.pick x y z,ty,pos,af,none⟩)::l):=
 KO.pick hx (by rw[hb];exact hv) ht h
theorem KO.mkc{f:Fn}{xs ys:Array Operand}{us vs:List Value}(h1:Li G xs.toList=some us)(h2:Li G ys.toList=some vs)(ht:Nat.blt t n=true)(h:KO P ops d Q n D w0 ((t,.func f us.toArray vs.toArray)::G) L l):
 KO P ops d Q n D w0 G L ((k,⟨some t,.makeFunc f xs ys,ty,pos,af,none⟩)::l):=KO.mkf (us:=us.toArray) (vs:=vs.toArray) (by simpa using qk h1) (by simpa using qk h2) ht h
theorem KO.cl{f:FuncId}{xs:Array Operand}{ts:Array TypeId}{vs:List Value}{fi cp:List Value}{Rr:Value->List HP->Prop}(hk:(!d||k== .write)=true)(hf:ev G x=some (.func (.func f) fi.toArray cp.toArray))(tG:Li G xs.toList=some vs)(fI:∀args w,(callFunc f args).run P w=.ok (.enter f args) w)(ht:Nat.blt t n=true)(hc:KC P f (fi++(vs++cp)).toArray w0 L Rr)(h:∀v L',Rr v L'->KO P ops d Q n D w0 ((t,v)::G) L' l):
 KO P ops d Q n D w0 G L ((k,⟨some t,.call ⟨.value x,xs,ts⟩,ty,pos,af,none⟩)::l):=KO.call hk hf (qk tG) ai fI ht hc h
theorem KO.ce{f:FuncId}{xs:Array Operand}{ts:Array TypeId}{vs:List Value}{fi cp:List Value}{Rr:Value->List HP->Prop}(hk:(!d||(k== .ef||k== .write))=true)(hf:ev G x=some (.func (.func f) fi.toArray cp.toArray))(tG:Li G xs.toList=some vs)(fI:∀args w,(callFunc f args).run P w=.ok (.enter f args) w)(ht:Nat.blt t n=true)(hc:KE P f (fi++(vs++cp)).toArray w0 L Rr)(h:∀v L',Rr v L'->KO P ops d Q n D w0 ((t,v)::G) L' l):
 KO P ops d Q n D w0 G L ((k,⟨some t,.call ⟨.value x,xs,ts⟩,ty,pos,af,none⟩)::l):=KO.abH hk hf (qk tG) ai fI ht hc h
theorem KO.i2u(hx:ev G x=some (.int .i64 a))(hs:(P.underlying T).isSome=true)(hd:P.underlying T'=some (.int .u64))(h0:0<=a/\a<=18446744073709551615)(ht:Nat.blt t n=true)(h:KO P ops d Q n D w0 ((t,.int .u64 a)::G) L l):
 KO P ops d Q n D w0 G L ((k,⟨some t,.convert T T' x,ty,pos,af,none⟩)::l):=
 KO.val (fun a' w ha=>by
  have :=run_convert_int (P:=P) w T T' .i64 a hs Y26;simp[Program.intKind,hd,Ul h0.1 h0.2]at this
  simp[execOp,ha.eval hx,this]) ht h
theorem KO.u2i(hx:ev G x=some (.int .u64 a))(hs:(P.underlying T).isSome=true)(hd:P.underlying T'=some (.int .i64))(h0:0<=a/\a<=9223372036854775807)(ht:Nat.blt t n=true)(h:KO P ops d Q n D w0 ((t,.int .i64 a)::G) L l):
 KO P ops d Q n D w0 G L ((k,⟨some t,.convert T T' x,ty,pos,af,none⟩)::l):=
 KO.val (fun a' w ha=>by
  have :=run_convert_int (P:=P) w T T' .u64 a hs Y26;simp[Program.intKind,hd,Fc (by omega : -9223372036854775808<=a) h0.2]at this
  simp[execOp,ha.eval hx,this]) ht h
theorem KO.aeh{yk:IntKind}(hx:ev G x=some (.int .u64 a))(hy:ev G y=some (.int yk 1))(hr:a/2=r)(ht:Nat.blt t n=true)(h:KO P ops d Q n D w0 ((t,.int .u64 r)::G) L l):
 KO P ops d Q n D w0 G L ((k,⟨some t,.binOp .shr T x y T',ty,pos,af,none⟩)::l):=
 KO.val (fun a' w ha=>by simp[execOp,ha.eval hx,ha.eval hy,eqGuard_at_int,binOp_shr,shift_shr_u64,<-hr]) ht h
theorem KO.max2{ts:Array TypeId}(hx:ev G x=some (.int .i64 a))(hy:ev G y=some (.int .i64 c))(hr:max a c=r)(ht:Nat.blt t n=true)(h:KO P ops d Q n D w0 ((t,.int .i64 r)::G) L l):
 KO P ops d Q n D w0 G L ((k,⟨some t,.call ⟨.builtin .max,#[x,y],ts⟩,ty,pos,af,none⟩)::l):=
 KO.val (fun a' w ha=>by
  subst hr;simp[execOp,resolve,invoke,builtin,ha.eval hx,ha.eval hy,Builtin.max_,Builtin.max2]
  rw[Int.max_def];split<;>split<;>first|rfl|omega) ht h
def SL {α:Type} (E:TypeId) (sz:Nat) (cf:α->List Value) (v:Value) (xs:List α):HP:=lE E sz v xs.length (xs.flatMap cf)
variable {α:Type} {cf:α->List Value} {sz:Nat} {xs:List α} {e e':α}
theorem rN{w:World}{g len cap:Nat}(dM:∀e,(cf e).length=sz)(hw:St w0 (SL E sz cf (.slice (some ⟨g,0,none⟩) len cap) xs::R) w)(he:xs[i]? =some e):∀j,j<sz->w.cell? ⟨g,i *sz+j,none⟩=(cf e)[j]? :=fun j hj=>by
 have hi:=(aw.1 he).1;have hlen:len=xs.length:=by
  rcases hw.cC with⟨h,_⟩|⟨_,_,_,h,_⟩
  ·simp at h
  ·simp at h;exact h.2.1
 have dN:i *sz+j<xs.length *sz:=by
  have :(i+1)*sz<=xs.length *sz:=Nat.mul_le_mul_right _ hi;rw[Nat.succ_mul]at this;omega
 subst hlen;rw[hw.zN.cellAt _ dN,flat_get cf sz dM e xs i j hi hj];simp[au,he]
theorem KO.ldE{g len cap:Nat}(hk:(!d||k != .pure)=true)(hx:ev G x=some (.pointer (some ⟨g,i *sz+j,none⟩)))(hT:∀w,(isAgg T).run P w=.ok false w)(hp:bB L (SL E sz cf (.slice (some ⟨g,0,none⟩) len cap) xs) R)(dM:∀e,(cf e).length=sz)(he:xs[i]? =some e)(hj:Nat.blt j sz=true)(hv:(cf e)[j]? =some v)(ht:Nat.blt t n=true)(h:KO P ops d Q n D w0 ((t,v)::G) L l):KO P ops d Q n D w0 G L ((k,⟨some t,.load T x,ty,pos,af,none⟩)::l):=
 KO.Sy hk hx hT (fun w hw=>by rw[rN dM (hw.pick hp) he j (by simpa[Nat.blt_eq]using hj),hv]) ht h
theorem KO.BE{g len cap:Nat}(hk:(!d||k != .pure)=true)(hx:ev G x=some (.pointer (some ⟨g,i *sz,none⟩)))(hT:∀w,(isAgg T).run P w=.ok true w)(hn:∀w,(Go.sizeOf T).run P w=.ok sz w)(hp:bB L (SL E sz cf (.slice (some ⟨g,0,none⟩) len cap) xs) R)(dM:∀e,(cf e).length=sz)(he:xs[i]? =some e)(ht:Nat.blt t n=true)(h:KO P ops d Q n D w0 ((t,.agg (cf e).toArray)::G) L l):KO P ops d Q n D w0 G L ((k,⟨some t,.load T x,ty,pos,af,none⟩)::l):=
 KO.QW hk hx hT hn (by simpa using dM e) (fun w hw j c hj=>by
  have MI:j<sz:=by rw[<-dM e];exact(aw.1 hj).1
  rw[Addr.add_lit,rN dM (hw.pick hp) he j MI];exact hj) ht h
theorem KO.Sz{g len cap m:Nat}{us:List Value}(hk:(!d||k != .pure)=true)(hx:ev G x=some (.pointer (some ⟨g,i *sz+j,none⟩)))(hT:∀w,(isAgg T).run P w=.ok true w)(hn:∀w,(Go.sizeOf T).run P w=.ok m w)(hp:bB L (SL E sz cf (.slice (some ⟨g,0,none⟩) len cap) xs) R)(dM:∀e,(cf e).length=sz)(he:xs[i]? =some e)(hu:((cf e).drop j).take m=us)(hm:us.length=m)(ht:Nat.blt t n=true)(h:KO P ops d Q n D w0 ((t,.agg us.toArray)::G) L l):KO P ops d Q n D w0 G L ((k,⟨some t,.load T x,ty,pos,af,none⟩)::l):=
 KO.QW hk hx hT hn (by simpa using hm) (fun w hw q c hj=>by
  rw[show(us.toArray).toList=us from rfl,<-hu,List.getElem?_take]at hj;split at hj
  ·rw[List.getElem?_drop]at hj;have MI:j+q<sz:=by rw[<-dM e];exact(aw.1 hj).1
   rw[Addr.add_lit,Nat.add_assoc,rN dM (hw.pick hp) he (j+q) MI];exact hj
  ·simp at hj) ht h
end
section
variable {w0 w:World} {L:List HP} {E:TypeId} {α:Type} {cf:α->List Value} {sz:Nat} {xs:List α} {v:Value}
theorem Ie(h:St w0 (SL E sz cf v xs::L) w):(v=.slice none 0 0/\xs=[])\/∃g cap,v=.slice (some ⟨g,0,none⟩) xs.length cap:=by
 rcases h.cC with⟨h1,h2,_⟩|⟨g,cap,_,h1,_⟩
 ·exact .inl ⟨h1,List.eq_nil_of_length_eq_zero h2⟩
 ·exact .inr ⟨g,cap,h1⟩
theorem qt(h:St w0 (SL E sz cf v xs::L) w){i:Nat}(hi:i<xs.length):∃g cap,v=.slice (some ⟨g,0,none⟩) xs.length cap:=by
 rcases Ie h with⟨_,h1⟩|h1
 ·rw[h1]at hi;simp at hi
 ·exact h1
theorem bo(h:St w0 (SL E sz cf v xs::L) w):∃a cap,v=.slice a xs.length cap/\(0<xs.length->∃g,a=some ⟨g,0,none⟩):=by
 rcases Ie h with⟨h0,h1⟩|⟨g,cap,h1⟩
 ·exact⟨none,0,by rw[h0,h1];rfl,fun h=>by rw[h1]at h;simp at h⟩
 ·exact⟨_,cap,h1,fun _=>⟨g,rfl⟩⟩
end
section
variable {P:Program} {ops:Array Oper} {d:Bool} {Q:Exit->Act->World->Prop} {n:Nat} {D:List Deferred} {w0:World} {G:Env} {L R:List HP} {l:List (Kd×Oper)} {k:Kd}
 {t:Nat} {ty T E:TypeId} {pos:String} {af:Array Edge} {x:Operand} {v:Value} {i j:Nat} {α:Type} {cf:α->List Value} {sz:Nat} {xs:List α} {e:α}
theorem KO.wB{b:Nat}{cs:List Value}{fz:Nat×Nat}(hk:(!d||k != .pure)=true)(hx:ev G x=some (.pointer (some ⟨b,0,none⟩)))(hT:∀w,(isAgg T).run P w=.ok true w)(hn:∀w,(Go.sizeOf T).run P w=.ok sz w)(hp:bB L (bA b (.cells cs.toArray E fz)) R)(dM:cs.length=sz)(ht:Nat.blt t n=true)(h:KO P ops d Q n D w0 ((t,.agg cs.toArray)::G) L l):KO P ops d Q n D w0 G L ((k,⟨some t,.load T x,ty,pos,af,none⟩)::l):=
 KO.I6 hk hx hT hn hp (us:=cs) (by rw[List.drop_zero,List.take_of_length_le ae]) dM ht h
theorem KO.j7{g len cap:Nat}(hk:(!d||k != .pure)=true)(hx:ev G x=some (.pointer (some ⟨g,i *sz,none⟩)))(hT:∀w,(isAgg T).run P w=.ok false w)(hp:bB L (SL E sz cf (.slice (some ⟨g,0,none⟩) len cap) xs) R)(dM:∀e,(cf e).length=sz)(he:xs[i]? =some e)(hj:Nat.blt 0 sz=true)(hv:(cf e)[0]? =some v)(ht:Nat.blt t n=true)(h:KO P ops d Q n D w0 ((t,v)::G) L l):KO P ops d Q n D w0 G L ((k,⟨some t,.load T x,ty,pos,af,none⟩)::l):=
 KO.ldE (j:=0) hk (by rw[Nat.add_zero];exact hx) hT hp dM he hj hv ht h
end
section
variable {P:Program} {ops:Array Oper} {d:Bool} {Q:Exit->Act->World->Prop} {n:Nat} {D:List Deferred} {w0 wX:World} {G:Env} {L LX R:List HP} {l:List (Kd×Oper)} {k:Kd}
 {t:Nat} {ty T E:TypeId} {pos:String} {af:Array Edge} {x:Operand} {v:Value} {i j off:Nat} {α:Type} {cf:α->List Value} {sz:Nat} {xs:List α} {e:α}
theorem KO.ldb(hw:St wX LX w0){b:Nat}{cs:List Value}{fz:Nat×Nat}(hk:(!d||k != .pure)=true)(hx:ev G x=some (.pointer (some ⟨b,off,none⟩)))(hT:∀w,(isAgg T).run P w=.ok false w)(hp:bB LX (bA b (.cells cs.toArray E fz)) R)(hc:cs[off]? =some v)(ht:Nat.blt t n=true)(h:KO P ops d Q n D w0 ((t,v)::G) L l):KO P ops d Q n D w0 G L ((k,⟨some t,.load T x,ty,pos,af,none⟩)::l):=
 KO.sl hk hx hT (by rw[World.cell?,(hw.nD hp).2];simpa using hc) ht h
theorem KO.vf{cs:Array Value}(hk:(!d||k != .pure)=true){ad:Addr}(hx:ev G x=some (.pointer (some ad)))(hT:∀w,(isAgg T).run P w=.ok true w)(hn:∀w,(Go.sizeOf T).run P w=.ok sz w)(dM:cs.size=sz)(hc:cz w0 ad cs.toList)(ht:Nat.blt t n=true)(h:KO P ops d Q n D w0 ((t,.agg cs)::G) L l):KO P ops d Q n D w0 G L ((k,⟨some t,.load T x,ty,pos,af,none⟩)::l):=
 KO.QW hk hx hT hn dM (fun _ hs=>hc.ext (Ext.bU hs.below)) ht h
end
section
variable {P:Program} {f:FuncId} {args:Array Value} {w0 w:World} {L L':List HP} {v:Value}
theorem KE.kP(h:KE P f args w0 L (fun u M=>u=v/\M=L))(hw:St w0 L w):KE P f args w L' (fun u M=>u=v/\M=L'):=fun w' hw'=>
 (h w' (hw.aA hw'.below)).mono fun _ _ ⟨u,_,he,⟨hu,_⟩,_,hb⟩=>⟨u,L',he,⟨hu,rfl⟩,hw'.aA hb,hb⟩
theorem KE.only(h:KE P f args w0 L (fun u M=>u=v/\M=L))(hs:∀w,St w0 L' w->St w0 L w):KE P f args w0 L' (fun u M=>u=v/\M=L'):=fun w' hw'=>
 (h w' (hs w' hw')).mono fun _ _ ⟨u,_,he,⟨hu,_⟩,_,hb⟩=>⟨u,L',he,⟨hu,rfl⟩,hw'.aA hb,hb⟩
end
def oH {α:Type} (p:α->Bool) (l:List α):Int:=match l.findIdx? p with|some k=>(k:Int)|none=> -1
theorem rB{α:Type}{p:α->Bool}{l:List α}{k:Nat}{e:α}(hk:l[k]? =some e)(hp:p e=true)(hn:∀j u,j<k->l[j]? =some u->p u=false):oH p l=k:=by
 have :l.findIdx? p=some k:=by
  rw[List.findIdx?_eq_some_iff_getElem];obtain⟨dN,he⟩:=aw.1 hk
  exact⟨dN,by rw[he];exact hp,fun j hj=>by
   have :=hn j l[j] hj (ak _)
   simp[this]⟩
 rw[oH,this]
theorem ph{α:Type}{p:α->Bool}{l:List α}(hn:∀(j:Nat) (u:α),l[j]? =some u->p u=false):oH p l= -1:=by
 have :l.findIdx? p=none:=by
  rw[List.findIdx?_eq_none_iff];intro x hx;obtain⟨j,hj,rfl⟩:=List.getElem_of_mem hx;exact hn j _ (ak hj)
 rw[oH,this]
theorem lK{α:Type}{p:α->Bool}{l:List α}(h:0<=oH p l):∃(k:Nat) (e:α),oH p l=(k:Int)/\l[k]? =some e/\p e=true/\k<l.length/\l.findIdx? p=some k:=by
 unfold oH at h ⊢;cases hf:l.findIdx? p with
 |none=>rw[hf]at h;simp at h
 |some k=>
  obtain⟨dN,hp,_⟩:=List.findIdx?_eq_some_iff_getElem.1 hf;exact⟨k,l[k],rfl,ak dN,hp,dN,rfl⟩
theorem rA{α:Type}{p:α->Bool}{l:List α}(h:oH p l<0):l.findIdx? p=none:=by
 unfold oH at h;cases hf:l.findIdx? p with
 |none=>rfl
 |some k=>rw[hf]at h;simp only at h;omega
theorem nJ{α:Type}(p:α->Bool)(l:List α):decide (0<=oH p l)=l.any p:=by
 cases hf:l.findIdx? p with
 |none=>
  have h1:l.any p=false:=by
   rw[List.any_eq_false];intro x hx;have :=List.findIdx?_eq_none_iff.1 hf x hx;simp[this]
  simp[oH,hf,h1]
 |some k=>
  obtain⟨dN,hp,_⟩:=List.findIdx?_eq_some_iff_getElem.1 hf;have h1:l.any p=true:=List.any_eq_true.2 ⟨l[k],List.getElem_mem dN,hp⟩;simp[oH,hf,h1]
open Go
theorem KC.pre{P:Program}{f:FuncId}{args:Array Value}{w0:World}{L:List HP}{R:Value->List HP->Prop}{p:Prop}(hs:∀w,St w0 L w->p)(h:p->KC P f args w0 L R):KC P f args w0 L R:=fun w hw=>h (hs w hw) w hw
theorem KC.perm{P:Program}{f:FuncId}{args:Array Value}{w0:World}{L L':List HP}{R:Value->List HP->Prop}(hs:∀w,St w0 L w->St w0 L' w)(h:KC P f args w0 L' R):KC P f args w0 L R:=fun w hw=>h w (hs w hw)
theorem KE.perm{P:Program}{f:FuncId}{args:Array Value}{w0:World}{L L':List HP}{R:Value->List HP->Prop}(hs:∀w,St w0 L w->St w0 L' w)(h:KE P f args w0 L' R):KE P f args w0 L R:=fun w hw=>h w (hs w hw)
theorem jO{α:Type}{p:α->Bool}:∀{l:List α} {k:Nat},l.findIdx? p=some k->(l.take (k+1)).filter (fun e=> !p e)=l.take k
 |[],k,h=>by simp at h
 |a::l,k,h=>by
  rw[List.findIdx?_cons]at h;by_cases ha:p a=true
  ·rw[if_pos ha]at h;simp only[az]at h;subst h;simp[ha]
  ·rw[if_neg ha]at h;cases hf:l.findIdx? p with
   |none=>rw[hf]at h;simp at h
   |some j=>
    rw[hf]at h;simp only[Option.map_some,az]at h;subst h;simp[ha,jO hf]
theorem a_{α:Type}{l:List α}{k:Nat}{e:α}(h:l[k]? =some e):l.take (k+1)=l.take k++[e]:=by
 rw[List.take_add_one,h];rfl
def oM {α:Type} (w:World) (sz:Nat) (cf:α->List Value) (v:Value) (xs:List α):Prop:=
 ∃a cap,v=.slice a xs.length cap/\(0<xs.length->∃g,a=some ⟨g,0,none⟩)/\∀g,a=some ⟨g,0,none⟩->∀(i:Nat) (e:α),xs[i]? =some e->cz w ⟨g,i *sz,none⟩ (cf e)
section
variable {w0 w w1:World} {L R LX RX:List HP} {E:TypeId} {α:Type} {cf:α->List Value} {sz:Nat} {xs:List α} {v:Value}
theorem oM.ext(h:oM w sz cf v xs)(e:Ext w w1):oM w1 sz cf v xs:=by
 obtain⟨a,cap,h1,h2,h3⟩:=h;exact⟨a,cap,h1,h2,fun g hg i x hx=>(h3 g hg i x hx).ext e⟩
theorem oM.of(dM:∀e,(cf e).length=sz)(hp:bB L (SL E sz cf v xs) R)(w:World)(hw:St w0 L w):oM w sz cf v xs:=by
 have h:=hw.pick hp;obtain⟨a,cap,rfl,ha⟩:=bo h;refine⟨a,cap,rfl,ha,fun g hg i e he j c hj=>?_⟩;subst hg;have MI:j<sz:=by rw[<-dM e];exact(aw.1 hj).1
 rw[Addr.add_lit,rN dM h he j MI];exact hj
theorem oM.base(h:oM w0 sz cf v xs)(w:World)(hw:St w0 L w):oM w sz cf v xs:=h.ext (Ext.bU hw.below)
end
structure Ms where
 id:Int
 pri:Int
 body:aj
 queue:aj
 bF:Int
instance:Inhabited Ms:=⟨⟨0,0,⟨#[]⟩,⟨#[]⟩,0⟩⟩
def dy (m:Ms):List Value:=[.int .i64 m.id,.int .i64 m.pri,.string m.body,.string m.queue,.int .i64 m.bF]
structure It where
 m:Ms
 line:Int
 put:Int
 gC:Int
instance:Inhabited It:=⟨⟨default,0,0,0⟩⟩
def nV (x:It):List Value:=[.int .i64 x.m.id,.int .i64 x.m.pri,.string x.m.body,.string x.m.queue,.int .i64 x.m.bF,.int .i64 x.line,.int .i64 x.put,.int .i64 x.gC]
def Dw (p q x y:Int):Int:=if p≠q then q-p else x-y
def small (a:Int):Prop:= -1152921504606846976<=a/\a<=1152921504606846976
def jK (a b:It):Int:=Dw a.m.pri b.m.pri a.line b.line
structure Qu where
 l:List It
 next:Int
instance:Inhabited Qu:=⟨⟨[],0⟩⟩
def pO (e:It):Prop:=small e.m.pri/\small e.line
def QP (l:List It) (x:It):Prop:= ∀(p q:Nat) (a b:It),p<=q->l[p]? =some a->l[q]? =some b->jK b x<0->jK a x<0
structure Kg (l:List It) (x:It) (k:Nat):Prop where
 le:k<=l.length
 lo:∀(p:Nat) (a:It),p<k->l[p]? =some a->jK a x<0
 hi:∀(p:Nat) (a:It),k<=p->l[p]? =some a->0<=jK a x
def Pr (l:List It) (x:It) (k:Nat):Bool:=match l[k]? with|some a=>decide (jK a x=0)|none=>false
def sQ (l:List It) (x:It):Nat:=(l.takeWhile fun e=>decide (jK e x<0)).length
theorem Cl:∀{l:List It} {x:It} {k:Nat},Kg l x k->k=sQ l x
 |[],x,k,h=>by have :=h.le;simp at this;subst this;rfl
 |a::l,x,k,h=>by
  unfold sQ;by_cases hx:jK a x<0
  ·simp only[List.takeWhile_cons,hx,decide_true,if_true,List.length_cons];cases k with
   |zero=>exact absurd hx (Int.not_lt.2 (h.hi 0 a (aP _) ai))
   |succ k=>
    have :Kg l x k:=⟨by have :=h.le;simp at this;omega,fun p b hp hb=>h.lo (p+1) b ae (by simpa using hb),fun p b hp hb=>h.hi (p+1) b ae (by simpa using hb)⟩;rw[Cl this];rfl
  ·simp only[List.takeWhile_cons,hx,decide_false];cases k with
   |zero=>rfl
   |succ k=>exact absurd (h.lo 0 a ae ai) hx
theorem Ck(l:List It)(x:It):sQ l x<=l.length:=(List.takeWhile_prefix _).length_le
def eG (q:Qu) (m:Ms) (u:Int):It:=⟨m,q.next,max u (-1),-1⟩
def dr (q:Qu) (m:Ms) (u:Int):Qu:=⟨q.l.take (sQ q.l (eG q m u))++eG q m u::q.l.drop (sQ q.l (eG q m u)),q.next+1⟩
structure Yt (q:Qu):Prop where
 len:q.l.length<900000
 small:∀e∈q.l,pO e
 next:0<=q.next/\q.next<1000000
 mono:∀m u,QP q.l (eG q m u)
def gA (e:It):Bool:=decide (e.put<0)&&decide (e.gC<0)
def eX (q:Qu):List Ms:=(q.l.filter gA).map (·.m)
def ig (q:Qu):List Ms:=(q.l.filter fun e=>decide (e.put<0)).map (·.m)
def K2 (id:Int) (e:It):Bool:=decide (e.m.id=id)
def tu (q:Qu) (id:Int):Bool:=q.l.any (K2 id)
def bD (m:Ms):Bool:=decide (0<=m.id)&&(decide (m.id<=1099511627776)&&(decide (0<=m.pri)&&(decide (m.pri<=9)&&(fJ m.body&&(cH m.queue&&(decide (0<=m.bF)&&decide (m.bF<4)))))))
theorem bG{m:Ms}(h:bD m=true):0<=m.id/\m.id<=1099511627776/\0<=m.pri/\m.pri<=9/\fJ m.body=true/\cH m.queue=true/\0<=m.bF/\m.bF<4:=by
 unfold bD at h;simp only[bm,decide_eq_true_eq]at h;exact h
def jC (q:Qu) (m:Ms):Int:=if bD m=false then 1 else if tu q m.id=true then 9 else if 20<=q.l.length then 12 else 0
def lU (q:Qu) (m:Ms) (u:Int):Qu:=if jC q m=0 then dr q m u else q
def uY (q:Qu):Option Nat:=q.l.findIdx? gA
def oB (q:Qu) (id:Int):Option Nat:=q.l.findIdx? (K2 id)
def o4 (l:List It) (k:Nat):It:=l.getD k default
def iP:Ms:=⟨0,0,⟨#[]⟩,⟨#[]⟩,0⟩
def lz (q:Qu) (u:Int):Qu:=match uY q with|none=>q|some k=>if u<0 then⟨q.l.eraseIdx k,q.next⟩else⟨q.l.set k {o4 q.l k with gC:=u},q.next⟩
def l6 (q:Qu):Ms:=match uY q with|none=>iP|some k=>(o4 q.l k).m
def l7 (q:Qu):Int:=match uY q with|none=>8|some _=>0
def eF (q:Qu) (id:Int):Qu:=match oB q id with|none=>q|some k=>⟨q.l.eraseIdx k,q.next⟩
def pX (q:Qu) (id:Int):Ms:=match oB q id with|none=>iP|some k=>(o4 q.l k).m
def kS (q:Qu) (id:Int):Int:=match oB q id with|none=>7|some _=>0
def qN (u:Int) (back:Bool) (x:It):Bool:=(decide (x.put=u)&&back)||(decide (x.gC=u)&& !back)
def qj (u:Int) (x:It):It:={x with put:=if x.put=u then -1 else x.put,gC:=if x.gC=u then -1 else x.gC}
def fw (q:Qu) (u:Int) (back:Bool):Qu:=if u<0 then q else⟨(q.l.filter fun e=> !qN u back e).map (qj u),q.next⟩
theorem j_{l:List It}{k:Nat}{e:It}(h:l[k]? =some e):o4 l k=e:=by simp[o4,au,h]
end WB
namespace Go.Proofs.YtjhogocabcdjbabGreatDoor
open Tryz
open Go Go.RowKit WB
theorem abF(w0:World)(L:List HP)(a b:Ms)(x y:Int)(h1:small a.pri)(h2:small b.pri)(h3:small x)(h4:small y):
 KE prog 245 #[.agg (dy a).toArray,.agg (dy b).toArray,.int .i64 x,.int .i64 y] w0 L (fun v L'=>v=.int .i64 (Dw a.pri b.pri x y)/\L'=L):=by
 unfold small at h1 h2 h3 h4;refine KE.mk (n:=22) func245 rfl ntmps245 ai ?_;intro w hw;refine Z2 ?_;refine KO.box rfl rfl aN rfl ?_;intro b4;refine KO.box rfl rfl aN rfl ?_;intro b5;refine oK ?_;refine Qf ?_;refine sD ?_;refine Qf ?_;refine sP ?_;refine tY ?_;refine K.bn rfl (fun h=>?_) (fun h=>?_)
 ·refine Z2 ?_;refine Qf ?_;refine sP ?_;refine Qf ?_;refine sD ?_;refine Nc ?_;refine AZ ?_;refine KQ.aU rfl rfl (fun w' hs=>⟨_,_,rfl,⟨?_,rfl⟩,hw.aA hs.below,hs.below⟩);simp[Dw,h]
 ·refine BT ?_;refine Nc ?_;refine kq ?_;refine KQ.aU rfl rfl (fun w' hs=>⟨_,_,rfl,⟨?_,rfl⟩,hw.aA hs.below,hs.below⟩);simp[Dw,h]
abbrev K0 (v:Value) (xs:List It):HP:=SL 243 8 nV v xs
theorem W4(w0:World)(L:List HP)(e:It):
 KE prog 150 #[.agg (nV e).toArray] w0 L (fun v L'=>v=.bool (decide (e.put<0)&&decide (e.gC<0))/\L'=L):=by
 refine KE.mk (n:=11) func150 rfl ntmps150 ai ?_;intro w hw;refine Z2 ?_;refine KO.box rfl rfl aN rfl ?_;intro b1;refine jL ?_;by_cases h1:e.put<0
 ·refine Zj ?_;refine sP ?_;refine um ?_;refine yW ?_;refine H8 ?_;refine J7 ?_;refine um ?_;refine sx ?_;refine kq ?_;refine KQ.aU rfl rfl (fun w' hs=>⟨_,_,rfl,⟨?_,rfl⟩,hw.aA hs.below,hs.below⟩);simp[h1]
 ·refine Zj ?_;refine sP ?_;refine um ?_;refine ET ?_;refine kq ?_;refine KQ.aU rfl rfl (fun w' hs=>⟨_,_,rfl,⟨?_,rfl⟩,hw.aA hs.below,hs.below⟩);simp[h1]
theorem RA(w0:World)(L R:List HP)(e:It)(b:Nat)(id:Int)(E:TypeId)(hp:bB L (bA b (.cells [Value.int .i64 id].toArray E (0,0))) R):
 KE prog 252 #[.agg (nV e).toArray,.pointer (some ⟨b,0,none⟩)] w0 L (fun v L'=>v=.bool (decide (e.m.id=id))/\L'=L):=by
 refine KE.mk (n:=9) func252 rfl ntmps252 ai ?_;intro w hw;have hw:=hw.pick hp;refine Z2 ?_;refine KO.box rfl rfl aN rfl ?_;intro b2;refine oK ?_;refine Nr ?_;refine HW ?_;refine XD ?_;refine kq ?_;refine KQ.aU rfl rfl (fun w' hs=>⟨_,_,rfl,⟨rfl,rfl⟩,(hw.vR hp).aA hs.below,hs.below⟩)
theorem Eh(w0:World)(L:List HP)(v:Value)(xs:List It)(f:FuncId)(cp:List Value)(pf:It->Bool)(hr:∀w,St w0 L w->oM w 8 nV v xs)(hlen:xs.length<1000000)(fI:∀args w,(callFunc f args).run prog w=.ok (.enter f args) w)(qT:∀e,e∈xs->KE prog f ([]++([Value.agg (nV e).toArray]++cp)).toArray w0 L (fun v L'=>v=.bool (pf e)/\L'=L)):
 KE prog 149 #[v,.func (.func f) [].toArray cp.toArray] w0 L (fun v L'=>v=.int .i64 (oH pf xs)/\L'=L):=by
 refine KE.mk (n:=19) func149 rfl ntmps149 ai ?_;intro w hw;obtain⟨a,cap,rfl,ha,hc⟩:=hr w hw;refine lg ?_;refine Bb ?_;refine oL ?_;refine K.loop (fun k:Nat=>[(0,.slice a xs.length cap),(1,.func (.func f) [].toArray cp.toArray),(7,.int .i64 (xs.length:Nat)),(8,.int .i64 (k:Nat))]) (fun _=>[]) (fun k=>k<=xs.length/\∀(j:Nat) (u:It),j<k->xs[j]? =some u->pf u=false) (fun k=>xs.length-k) 0 ⟨by omega,fun j u h=>by omega⟩ ⟨rfl,rfl,rfl,rfl,trivial⟩ (fun _ h=>h) ?_;rintro k ⟨hk,mU⟩;refine lW ?_;refine K.bn rfl (fun h=>?_) (fun h=>?_)
 ·have dN:k<xs.length:=by omega
  obtain⟨g,rfl⟩:=ha ae;obtain⟨e,he⟩:∃e,xs[k]? =some e:=⟨xs[k],ak dN⟩;refine sy ?_;refine jo ?_;refine gZ ?_;refine X7 ?_;refine KO.ce rfl rfl rfl fI rfl ((qT e (ax he)).kP hw) ?_;rintro v L' ⟨rfl,rfl⟩;refine Z3 ?_;refine K.cond rfl (fun h1=>?_) (fun h1=>?_)
  ·refine m_ ?_;refine nX ?_;refine KQ.aU rfl rfl (fun w' hs=>⟨_,_,rfl,⟨?_,rfl⟩,hw.aA hs.below,hs.below⟩);rw[rB he h1 mU]
  ·refine lY ?_;refine KQ.round (k+1) ⟨by omega,fun j u hj hu=>?_⟩ ae ⟨rfl,rfl,rfl,rfl,trivial⟩ (fun _ h=>h);by_cases Bk:j=k
   ·subst Bk;rw[he]at hu;simp only[az]at hu;rw[<-hu];exact h1
   ·exact mU j u ae hu
 ·refine yc ?_;refine KQ.aU rfl rfl (fun w' hs=>⟨_,_,rfl,⟨?_,rfl⟩,hw.aA hs.below,hs.below⟩);rw[ph fun j u hu=>mU j u Y15 hu]
theorem Xh(w0:World)(L:List HP)(v:Value)(xs:List It)(f:FuncId)(cp:List Value)(pf:It->Bool)(hr:∀w,St w0 L w->oM w 8 nV v xs)(hlen:xs.length<1000000)(fI:∀args w,(callFunc f args).run prog w=.ok (.enter f args) w)(qT:∀e,e∈xs->KE prog f ([]++([Value.agg (nV e).toArray]++cp)).toArray w0 L (fun v L'=>v=.bool (pf e)/\L'=L)):
 KE prog 241 #[v,.func (.func f) [].toArray cp.toArray] w0 L (fun v L'=>v=.bool (xs.any pf)/\L'=L):=by
 refine KE.mk (n:=9) func241 rfl ntmps241 ai ?_;intro w hw;refine yb ?_;refine KO.ce rfl rfl rfl call149 rfl ((Eh w0 L v xs f cp pf hr hlen fI qT).kP hw) ?_;rintro v L' ⟨rfl,rfl⟩;refine qG ?_;refine kq ?_;refine KQ.aU rfl rfl (fun w' hs=>⟨_,_,rfl,⟨?_,rfl⟩,hw.aA hs.below,hs.below⟩);rw[nJ]
theorem wD:(prog.info? 243).map (fun i=>(i.zero,i.size,i.bytes))=some (some (Value.agg #[.int .i64 0,.int .i64 0,.string ⟨#[]⟩,.string ⟨#[]⟩,.int .i64 0,.int .i64 0,.int .i64 0,.int .i64 0]),8,80):=by kernel_rfl
theorem I9(w w0:World)(L:List HP)(v:Value)(n:Nat)(xs vs:List Value)(bv:Nat)(h:St w0 (lE 243 8 v n xs::bA bv (.cells vs.toArray 243 (0,0))::L) w)(hv:vs.length=8)(h1:∀u∈vs,u.oneCell'=true)(hn:n<1000000):
 Calls prog 246 #[v,.int .i64 n,.slice (some ⟨bv,0,none⟩) 1 1] w fun e w'=> ∃v',e=.returned v'/\St w0 (lE 243 8 v' (n+1) (xs++vs)::L) w':=by
 obtain⟨i0,hi,yH,qb,BF⟩:=info_parts wD;have rv:cz w ⟨bv,0,none⟩ vs:=by
  have h2:=h.pick (.tail .head);exact h2.fj fun j u hj=>by simpa using hj
 obtain⟨v',w1,hr,gP⟩:=sf (P:=prog) 120 120 243 i0 _ 8 80 underlying120 hi yH qb BF rfl h ⟨bv,0,none⟩ 1 1 vs (by rw[hv]) rv h1 Vi ae;have HR:=Lib.hid hr;have HS:=Lib.hid gP;have sM:v=.slice none 0 0/\n=0\/∃g cap,v=.slice (some ⟨g,0,none⟩) n cap/\n<=cap:=by
  rcases h.cC with⟨h1,h2,_⟩|⟨g,cap,_,h1,h2,_⟩
  ·exact .inl ⟨h1,h2⟩
  ·exact .inr ⟨g,cap,h1,h2⟩
 clear h hr gP rv hi yH qb BF;rcases sM with⟨rfl,rfl⟩|⟨g,cap,rfl,Ag⟩
 ·go_enter func246,ntmps246
  go_wp2_with (at_builtin;refine Lib.wpList_append_run _ rfl _ _ _ _ rfl _ _ rfl rfl _ _ HR.out ?_)
  go_ret
  exact⟨_,rfl,HS.out.lZ.drop⟩
 ·have hE:((n:Int)==(n:Int))=true:=by simp
  by_cases WK:cap=n
  ·have WJ:n=cap:=WK.symm;subst WJ
   go_enter func246,ntmps246
   go_wp2_with (at_builtin;refine Lib.wpList_append_run _ rfl _ _ _ _ rfl _ _ rfl rfl _ _ HR.out ?_)
   go_ret
   exact⟨_,rfl,HS.out.lZ.drop⟩
  ·go_enter func246,ntmps246
   go_wp2_with (at_builtin;refine Lib.wpList_append_run _ rfl _ _ _ _ rfl _ _ rfl rfl _ _ HR.out ?_)
   go_ret
   exact⟨_,rfl,HS.out.lZ.drop⟩
theorem Gb(w w0:World)(L:List HP)(g n cap k:Nat)(xs vs:List Value)(bv:Nat)(h:St w0 (lE 243 8 (.slice (some ⟨g,0,none⟩) n cap) n xs::bA bv (.cells vs.toArray 243 (0,0))::L) w)(hv:vs.length=8)(h1:∀u∈vs,u.oneCell'=true)(Jd:∀u∈xs,u.oneCell'=true)(hn:n<1000000)(hk:k<n)(nG:n+1<=cap):
 Calls prog 246 #[.slice (some ⟨g,0,none⟩) n cap,.int .i64 k,.slice (some ⟨bv,0,none⟩) 1 1] w fun e w'=> ∃v',e=.returned v'/\St w0 (lE 243 8 v' (n+1) (xs.take (k *8)++vs++xs.drop (k *8))::L) w':=by
 obtain⟨i0,hi,yH,qb,BF⟩:=info_parts wD;rcases h.cC with⟨hc,_⟩|⟨g',nM,cur,hc,Ag,yO,kE,fH,vh,jh⟩
 ·simp at hc
 ·simp only[Value.slice.injEq,az,Addr.mk.injEq,and_true,true_and]at hc;obtain⟨rfl,rfl⟩:=hc;have hov:∀o n c o' n' c',(callFunc 346 #[.slice (some ⟨bv,o,none⟩) n c,.slice (some ⟨g,o',none⟩) n' c']).run prog w=.ok (.value (.bool false)) w:=fun o n c o' n' c'=>by
   rw[run_callFunc_extern func346 bC bC bC (e:=Extern.SlicesOverlaps.overlaps #[120,120] #[4]) bC,
    xo 120 4 243 i0 underlying120 hi jh.lZ o n c o' n' c' (by rw[kE];omega)]
   rfl
  have HB:=Lib.hid jh;have oo:((k:Int)==(n:Int))=false:=by simp;omega
  have xW:cap<9223372036854775808:=by unfold maxLen at yO;omega
  have dM:(cur.toList.take (n *8)).length=n *8:=by simp;omega
  have qT:cur.toList.length=cap *8:=by simpa using kE
  have Ep:Nat.min (n+1-k) (n-k)=n-k:=Nat.min_eq_right ae;have hm1:∀u∈(cur.toList.take (n *8)).drop (k *8),u.oneCell'=true:=fun u hu=>Jd u (fH▸List.mem_of_mem_drop hu)
  have Wu:((cur.toList.take (n *8)).drop (k *8)).length=Nat.min (n+1-k) (n-k)*i0.size:=by
   rw[bf,dM,qb,Ep,Nat.sub_mul]
  have nW:=fA (P:=prog) w.drew 120 120 3 243 i0 g ((k+1)*8) (n-k) (cap-(k+1)) ⟨g,k *8,none⟩ (n+1-k) (cap-k) cur 243 _ underlying120 hi jh.drew.look.2 Wu
   (jh.drew.fj fun j u hj=>by
    rw[List.getElem?_drop,List.getElem?_take]at hj;split at hj
    ·simpa using hj
    ·simp at hj) (by rw[Wu,qb,Ep,kE];omega) hm1
  have r7:=jh.drew.setRow (c':=(cur.toList.take ((k+1)*8)++(cur.toList.take (n *8)).drop (k *8)++cur.toList.drop ((k+1)*8+((cur.toList.take (n *8)).drop (k *8)).length)).toArray);have Ai:((cur.toList.take (n *8)).drop (k *8)).length=n *8-k *8:=by rw[bf,dM]
  generalize Ew:cur.toList.take ((k+1)*8)++(cur.toList.take (n *8)).drop (k *8)++cur.toList.drop ((k+1)*8+((cur.toList.take (n *8)).drop (k *8)).length)=C1 at nW r7;have tK:C1.length=cap *8:=by rw[<-Ew];simp only[aW,bu,Ai,bf,qT];omega
  have jg:=fA (P:=prog) (w.drew.setRow g C1.toArray) 120 120 3 243 i0 g (k *8) (n+1-k) (cap-k) ⟨bv,0,none⟩ 1 1 C1.toArray 243 vs underlying120 hi r7.look.2
   Y10 (r7.drop.fj fun j u hj=>by simpa using hj) (by rw[hv];simp[tK];omega) h1
  have vp:=r7.setRow (c':=(C1.take (k *8)++vs++C1.drop (k *8+vs.length)).toArray);have o8:Nat.min 1 (n+1-k)=1:=Nat.min_eq_left ae;rw[o8]at jg;rw[Ep]at nW;have iW:((C1.take (k *8)++vs++C1.drop (k *8+vs.length)).toArray).toList.take ((n+1)*8)=xs.take (k *8)++vs++xs.drop (k *8):=by
   have :=oP cur.toList vs (k *8) 8 (n *8) (cap *8) ae hv ae qT;simp only[fH]at this;rw[hv];have e:(k+1)*8=k *8+8:=by omega
   have e2:(n+1)*8=n *8+8:=by omega
   have e3:(k *8+8+(n *8-k *8))=n *8+8:=by omega
   rw[fH,e,show(xs.drop (k *8)).length=n *8-k *8 by rw[bf,vh],e3]at Ew;rw[<-Ew,e2];exact this
  have wJ:=vp.nz (n:=n+1) (size:=8) (cap:=cap) nG yO (by simp[tK,hv];omega) iW;generalize C1.take (k *8)++vs++C1.drop (k *8+vs.length)=C2 at jg wJ vp iW;have Yx:=Lib.hid nW;have Yw:=Lib.hid jg;have HO:=Lib.hid wJ;clear h jh yO hi yH qb BF kE fH vh Jd h1 hv nW jg wJ r7 vp iW Ew Ai Wu hm1 qT dM Ep o8 tK
  go_enter func246,ntmps246
  go_wp2_with fail
  refine fa [.pure,.pure,.pure,.pure,.pure,.pure,.pure,.pure,.write] [0,1,2,3,4,5,6,7,8] bC bC ?_;simp only[aJ,List.map_nil,item,List.getD_cons_zero,List.getD_cons_succ]
  repeat((with_reducible refine fN (v:=?_) (a':=?_) ?_ ?_ ?_ ?_);rotate_left 2;(rfl);((intro w';go_simp;(try(go_bits;(try go_simp);(try(go_bits;(try go_simp)))));(repeat(first|rewrite [if_pos ae]|rewrite [if_neg ae])))<;>rfl);(go_simp;rfl))
  refine me (a':=?_) (v:=?_) (w':=?_) rfl ?_ ?_ ?_
  rotate_left 3
  ·rw[nK _ _ _ _ rfl (.slice (some ⟨g,(k+1)*8,none⟩) (n-k) (cap-(k+1))) (.slice (some ⟨g,k *8,none⟩) (n+1-k) (cap-k)) rfl rfl Yx.out]
  ·go_simp;rfl
  refine pK ?_
  go_wp2_with (refine uw rfl _ _ _ _ rfl (.slice (some ⟨g,k *8,none⟩) (n+1-k) (cap-k)) (.slice (some ⟨bv,0,none⟩) 1 1) rfl rfl Yw.out ?_;intro K hK;go_simp)
  go_ret
  exact⟨_,rfl,HO.out.lZ.drop⟩
theorem Gc(w w0:World)(L:List HP)(g n k:Nat)(cap:Nat)(xs vs:List Value)(bv:Nat)(h:St w0 (lE 243 8 (.slice (some ⟨g,0,none⟩) n cap) n xs::bA bv (.cells vs.toArray 243 (0,0))::L) w)(hv:vs.length=8)(h1:∀u∈vs,u.oneCell'=true)(Jd:∀u∈xs,u.oneCell'=true)(hn:n<1000000)(hk:k<n)(nG:cap<n+1):
 Calls prog 246 #[.slice (some ⟨g,0,none⟩) n cap,.int .i64 k,.slice (some ⟨bv,0,none⟩) 1 1] w fun e w'=> ∃v',e=.returned v'/\St w0 (lE 243 8 v' (n+1) (xs.take (k *8)++vs++xs.drop (k *8))::L) w':=by
 obtain⟨i0,hi,yH,qb,BF⟩:=info_parts wD;rcases h.cC with⟨hc,_⟩|⟨g',nM,cur,hc,Ag,yO,kE,fH,vh,jh⟩
 ·simp at hc
 ·simp only[Value.slice.injEq,az,Addr.mk.injEq,and_true,true_and]at hc;obtain⟨rfl,rfl⟩:=hc;have WK:cap=n:=by omega
  have oo:((k:Int)==(n:Int))=false:=by simp;omega
  have qT:cur.toList.length=cap *8:=by simpa using kE
  have SH:(xs.take (k *8)).length=k *8:=by rw[bu,vh];omega
  have eM:∀(j:Nat) (u:Value),xs[j]? =some u->cur[j]? =some u:=fun j u hj=>by
   rw[<-fH,List.getElem?_take]at hj;split at hj
   ·simpa using hj
   ·simp at hj
  have hr:=oS (P:=prog) w 120 3 120 243 i0 _ .i64 .i64 underlying120 underlying3 hi yH ⟨g,0,none⟩ k cap (xs.take (k *8)) (by rw[SH,qb])
   (jh.fj fun j u hj=>by
    rw[List.getElem?_take]at hj;split at hj
    ·rw[Nat.zero_add];exact eM j u hj
    ·simp at hj) (n+1-k) ae (by rw[qb];omega) ae ae (by rw[BF];exact growslice_fits ae ae) (by rw[BF];omega)
  have Ip:=grownCap_ge w (k+(n+1-k)) cap 243;have hle:=grownCap_le_maxLen w (k+(n+1-k)) cap 243 Vi;have lP:=jh.drew.alloc (.cells ((xs.take (k *8)).toArray++Builtin.zeroCells (Value.agg #[.int .i64 0,.int .i64 0,.string ⟨#[]⟩,.string ⟨#[]⟩,.int .i64 0,.int .i64 0,.int .i64 0,.int .i64 0]).cells (n+1-k)++Builtin.zeroCells (Value.agg #[.int .i64 0,.int .i64 0,.string ⟨#[]⟩,.string ⟨#[]⟩,.int .i64 0,.int .i64 0,.int .i64 0,.int .i64 0]).cells (grownCap w (k+(n+1-k)) cap 243-(k+(n+1-k)))) 243);have Jc:∀q,(Builtin.zeroCells (Value.agg #[.int .i64 0,.int .i64 0,.string ⟨#[]⟩,.string ⟨#[]⟩,.int .i64 0,.int .i64 0,.int .i64 0,.int .i64 0]).cells q).size=q *8:=fun q=>by rw[size_zeroCells];rfl
  generalize hW:w.drew.alloc (.cells ((xs.take (k *8)).toArray++Builtin.zeroCells (Value.agg #[.int .i64 0,.int .i64 0,.string ⟨#[]⟩,.string ⟨#[]⟩,.int .i64 0,.int .i64 0,.int .i64 0,.int .i64 0]).cells (n+1-k)++Builtin.zeroCells (Value.agg #[.int .i64 0,.int .i64 0,.string ⟨#[]⟩,.string ⟨#[]⟩,.int .i64 0,.int .i64 0,.int .i64 0,.int .i64 0]).cells (grownCap w (k+(n+1-k)) cap 243-(k+(n+1-k)))) 243)=W at hr lP;clear hW;generalize hcp:grownCap w (k+(n+1-k)) cap 243=cp at hr lP Ip hle;clear hcp;have e1:k+(n+1-k)=n+1:=by omega
  rw[e1]at hr Ip;generalize hB:w.heap.size=B at hr;have hB':w.drew.heap.size=B:=hB;rw[hB']at lP;clear hB hB';generalize hZ:Builtin.zeroCells (Value.agg #[.int .i64 0,.int .i64 0,.string ⟨#[]⟩,.string ⟨#[]⟩,.int .i64 0,.int .i64 0,.int .i64 0,.int .i64 0]).cells (n+1-k)++Builtin.zeroCells (Value.agg #[.int .i64 0,.int .i64 0,.string ⟨#[]⟩,.string ⟨#[]⟩,.int .i64 0,.int .i64 0,.int .i64 0,.int .i64 0]).cells (cp-(k+(n+1-k)))=Z at lP;have hZl:Z.toList.length=(cp-k)*8:=by
   rw[<-hZ];simp only[Array.length_toList,Array.size_append,Jc];omega
  have MR:((xs.take (k *8)).toArray++Builtin.zeroCells (Value.agg #[.int .i64 0,.int .i64 0,.string ⟨#[]⟩,.string ⟨#[]⟩,.int .i64 0,.int .i64 0,.int .i64 0,.int .i64 0]).cells (n+1-k)++Builtin.zeroCells (Value.agg #[.int .i64 0,.int .i64 0,.string ⟨#[]⟩,.string ⟨#[]⟩,.int .i64 0,.int .i64 0,.int .i64 0,.int .i64 0]).cells (cp-(k+(n+1-k))))=(xs.take (k *8)++Z.toList).toArray:=by
   rw[<-hZ];apply Array.ext';simp
  rw[MR]at lP;clear MR hZ Jc;have Wg:=lP;generalize MR:xs.take (k *8)++Z.toList=C0 at lP;have Jv:C0.length=cp *8:=by rw[<-MR,aW,SH,hZl];omega
  have Ah:Nat.min 1 (n+1-k)=1:=Nat.min_eq_left ae;have Df:St w0 (bA bv (.cells vs.toArray 243 (0,0))::bA B (.cells C0.toArray 243 (0,0))::bA g (.cells cur 243 (0,0))::L) W:=lP.pick (.tail (.tail .head));have nW:=fA (P:=prog) W 120 120 3 243 i0 B (k *8) (n+1-k) (cp-k) ⟨bv,0,none⟩ 1 1 C0.toArray 243 vs underlying120 hi lP.look.2
   (by rw[hv,qb,Ah,Nat.one_mul]) (Df.fj fun j u hj=>by simpa using hj) (by rw[hv];simp[Jv];omega) h1
  have r7:=lP.setRow (c':=(C0.take (k *8)++vs++C0.drop (k *8+vs.length)).toArray);rw[Ah]at nW;generalize Ew:C0.take (k *8)++vs++C0.drop (k *8+vs.length)=C1 at nW r7;have tK:C1.length=cp *8:=by rw[<-Ew];simp only[aW,bu,bf,Jv,hv];omega
  generalize Zc:W.setRow B C1.toArray=W1 at nW r7;clear Zc;have o_:(xs.drop (k *8)).length=(n-k)*8:=by rw[bf,vh];omega
  have o8:Nat.min (n-k) (n-k)=n-k:=Nat.min_self _;have Al:St w0 (bA g (.cells cur 243 (0,0))::bA B (.cells C1.toArray 243 (0,0))::bA bv (.cells vs.toArray 243 (0,0))::L) W1.drew:=(r7.pick (.tail .head)).drew;have jg:=fA (P:=prog) W1.drew 120 120 3 243 i0 B ((k+1)*8) (n-k) (cp-(k+1)) ⟨g,k *8,none⟩ (n-k) (cap-k) C1.toArray 243 (xs.drop (k *8)) underlying120 hi r7.drew.look.2
   (by rw[o_,qb,o8]) (Al.fj fun j u hj=>by rw[List.getElem?_drop]at hj;exact eM _ u hj) (by rw[o_];simp[tK];omega) (fun u hu=>Jd u (List.mem_of_mem_drop hu))
  have vp:=r7.drew.setRow (c':=(C1.take ((k+1)*8)++xs.drop (k *8)++C1.drop ((k+1)*8+(xs.drop (k *8)).length)).toArray);rw[o8]at jg;have iW:((C1.take ((k+1)*8)++xs.drop (k *8)++C1.drop ((k+1)*8+(xs.drop (k *8)).length)).toArray).toList.take ((n+1)*8)=xs.take (k *8)++vs++xs.drop (k *8):=by
   have :=xE (xs.take (k *8)) Z.toList vs (xs.drop (k *8)) (k *8) 8 ((n-k)*8) SH hv o_;simp only[MR]at this;rw[hv]at Ew;rw[Ew]at this;rw[o_,show(k+1)*8=k *8+8 by omega,show(n+1)*8=k *8+8+(n-k)*8 by omega];exact this
  have oq:(C1.take ((k+1)*8)++xs.drop (k *8)++C1.drop ((k+1)*8+(xs.drop (k *8)).length)).length=cp *8:=by
   simp only[aW,bu,bf,tK,vh];omega
  generalize C1.take ((k+1)*8)++xs.drop (k *8)++C1.drop ((k+1)*8+(xs.drop (k *8)).length)=C2 at jg vp iW oq;have wJ:=vp.nz (n:=n+1) (size:=8) (cap:=cp) Ip hle (by simpa using oq) iW;have e9:((n+1-k:Nat):Int)=(n:Int)+1-k:=by omega
  rw[e9]at hr;clear e9;have HR:=Lib.hid hr;have Yx:=Lib.hid nW;have Yw:=Lib.hid jg;have HO:=Lib.hid wJ;have aft:cp<9223372036854775808:=by unfold maxLen at hle;omega
  clear h jh yO hi yH qb BF kE fH vh Jd h1 hv nW jg wJ lP Wg r7 vp iW oq MR Jv Ew tK hr Al Df o_ SH qT eM hZl Ah o8 hle e1 WK
  go_enter func246,ntmps246
  go_wp2_with (first|(at_builtin;refine Lib.wpList_append_run _ rfl _ _ _ _ rfl _ _ rfl rfl _ _ HR.out ?_)|(refine uw rfl _ _ _ _ rfl (.slice (some ⟨B,k *8,none⟩) (n+1-k) (cp-k)) (.slice (some ⟨bv,0,none⟩) 1 1) rfl rfl Yx.out ?_;intro K hK;go_simp))
  refine fa [.pure,.pure,.pure,.pure,.pure,.pure,.pure,.pure,.write] [0,1,2,3,4,5,6,7,8] bC bC ?_;simp only[aJ,List.map_nil,item,List.getD_cons_zero,List.getD_cons_succ]
  repeat((with_reducible refine fN (v:=?_) (a':=?_) ?_ ?_ ?_ ?_);rotate_left 2;(rfl);((intro w';go_simp;(try(go_bits;(try go_simp);(try(go_bits;(try go_simp)))));(repeat(first|rewrite [if_pos ae]|rewrite [if_neg ae])))<;>rfl);(go_simp;rfl))
  refine me (a':=?_) (v:=?_) (w':=?_) rfl ?_ ?_ ?_
  rotate_left 3
  ·rw[nK _ _ _ _ rfl (.slice (some ⟨B,(k+1)*8,none⟩) (n-k) (cp-(k+1))) (.slice (some ⟨g,k *8,none⟩) (n-k) (cap-k)) rfl rfl Yw.out]
  ·go_simp;rfl
  refine pK ?_
  go_wp2_with fail
  go_ret
  exact⟨_,rfl,HO.out.pick (.tail .head) |>.drop.pick (.tail .head) |>.drop⟩
end Go.Proofs.YtjhogocabcdjbabGreatDoor
