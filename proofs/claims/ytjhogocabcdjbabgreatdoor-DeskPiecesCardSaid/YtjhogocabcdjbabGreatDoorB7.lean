/- waybillkeep.DeskPieces: for every two texts the law returns true. -/
import Derived.Test.YtjhogocabcdjbabGreatDoorCards
import Derived.Test.YtjhogocabcdjbabGreatDoorTie
import Derived.Stop.LaidErr
import Derived.ChangeMaps5
import Derived.Test.YtjhogocabcdjbabGreatDoorB6
set_option linter.unusedSimpArgs false
set_option linter.unusedVariables false
set_option maxRecDepth 100000
set_option maxHeartbeats 8000000
namespace Go.Proofs.YtjhogocabcdjbabGreatDoor.dpieces
open Go Go.RowKit Go.ChangeShapes Go.WideShapes Go.ChangeAt Go.Deep WB
theorem own:ownKnob Tryz.prog.godebug=none:=by kernel_rfl
theorem laidOut:laidOutB Tryz.prog=true:=by kernel_rfl
theorem et:Tryz.prog.globalNamed "errors.errorType"=some 5:=by kernel_rfl
theorem rt:(Tryz.prog.cutTypes.find? (·.1== "internal/reflectlite.rtype")).map (·.2)=some 367:=by kernel_rfl
theorem Ud:((List.range 492).filter fun t=>Tryz.prog.rowNamed t [101,114,114,111,114])=[31]:=by kernel_rfl
theorem XM:Tryz.prog.types.size=492:=by kernel_rfl
theorem JM{W:World}(h:handlesMet Tryz.prog [("errors.errorType",Rows.laid_errors_errorType)] W):c8 W:=by
 obtain⟨name,u,ty,e1,e2,e3,e4,e5⟩:=h _ (List.mem_singleton.2 rfl);have en:name=[101,114,114,111,114]:=(Option.some.inj e1).symm;subst en;obtain rfl:=Option.some.inj (rt.symm.trans e2);have hm:ty∈(List.range 492).filter fun t=>Tryz.prog.rowNamed t [101,114,114,111,114]:=aI.2 ⟨bz.2 (by rw[<-XM];exact e3),e4⟩
 rw[Ud]at hm;obtain rfl:=List.mem_singleton.1 hm;have hh:typeHandle Tryz.prog 31=.pointer (some ⟨10,31,none⟩):=by kernel_rfl
 rw[hh]at e5;have h1:=World.var?_cell et e5 0;unfold c8;simpa using h1
theorem xN{W:World}(h:laidMetH Tryz.prog Rows.deskPiecesRow.laid W):c8 W:=JM h.2
noncomputable def hold (os:Os):World:=
 let w0:=World.holding Tryz.prog os ⟨#[],#[],[]⟩
 {w0 with heap:=w0.heap.modify 5 fun
  | .cells _ t frozen=>.cells #[.iface 367 (.agg #[.pointer (some ⟨10,31,none⟩)])] t frozen
  |o=>o}
def data:List (String×DataW Unit):=[("math/bits.deBruijn32tab",Rows.laid_math_bits_deBruijn32tab),("math/bits.deBruijn64tab",Rows.laid_math_bits_deBruijn64tab),("internal/strconv.uint64pow10",Rows.laid_internal_strconv_uint64pow10),("unicode/utf8.acceptRanges",Rows.laid_unicode_utf8_acceptRanges),("strconv.ErrRange",Rows.laid_strconv_ErrRange),("strconv.ErrSyntax",Rows.laid_strconv_ErrSyntax),("unicode/utf8.first",Rows.laid_unicode_utf8_first)]
noncomputable def ln (os:Os):World:=(hold os).layVars Tryz.prog data
theorem A0(os:Os):(ln os).os=os:=World.layVars_os _ _ _
theorem NJ(os:Os)(args:Array Value):laidMet Tryz.prog data ((ln os).forCall (fun _ _=>0) ⟨#[],args,[]⟩).memory:=by
 have h:laidMet Tryz.prog data (ln os):=laidMet_layVars (w0:=hold os) (data.map (·.1)) [] rfl bm bm LaidIn.none
 exact h.of_heap (by simp[World.memory,World.forCall,Input.heap])
theorem MD(os:Os)(args:Array Value):laidMetH Tryz.prog Rows.deskPiecesRow.laid ((ln os).forCall (fun _ _=>0) ⟨#[],args,[]⟩).memory:=
 laidMetH_of_parts (NJ os args) bm
theorem Ib{W:World}(h:laidMetH Tryz.prog Rows.deskPiecesRow.laid W):laidMet Tryz.prog data W:=by
 have h1:=h.1
 rwa [show((Rows.deskPiecesRow.laid).filter fun x=>x.2.handleName?.isNone)=data from by kernel_rfl]at h1
theorem TF{W:World}(h:laidMetH Tryz.prog Rows.deskPiecesRow.laid W):nI W:=by
 have h1:laidMet Tryz.prog data W:=Ib h;have hd:("internal/strconv.uint64pow10",Lib.tabData .u64 Lib.pow10Tab)∈data:=by
  have e:(Lib.tabData .u64 Lib.pow10Tab:DataW Unit)=Rows.laid_internal_strconv_uint64pow10:=by kernel_rfl
  rw[e];unfold data;simp
 exact Ct h1 hd (g:=4) bm bm (n:=20) Tryz.underlying427 Tryz.underlying224 bm bm
theorem star: "*"++ "errors.errorString"= "*errors.errorString":=by decide
theorem Sk(u:TypeId)(h:Tryz.prog.typeName? 3 u=some "*errors.errorString"):u=449:=
 typeName_ptr_named (nm:= "errors.errorString") (by rw[star];kernel_rfl) bm ai u (by rw[star];exact h)
theorem Up{W:World}(h:laidMetH Tryz.prog Rows.deskPiecesRow.laid W)(ZF:W.ShapedOpen Tryz.prog):oB W:=by
 have h1:laidMet Tryz.prog [("strconv.ErrRange",Rows.laid_strconv_ErrRange),("strconv.ErrSyntax",Rows.laid_strconv_ErrSyntax),("unicode/utf8.first",Rows.laid_unicode_utf8_first)] W:=(Ib h).tail.tail.tail.tail;obtain⟨a0,s0,Kz,-,-,-⟩:=laid_sentinel h1 (show Tryz.prog.globalNamed "strconv.ErrRange"=some 3 by kernel_rfl) (show(Tryz.prog.globals[3]?).map (·.type)=some 31 by kernel_rfl) Tryz.underlying31 Sk Tryz.underlying449 Tryz.underlying451 rfl rfl Tryz.underlying9 bm bm
 obtain⟨a1,s1,P_,-,-,-⟩:=laid_sentinel h1.tail (show Tryz.prog.globalNamed "strconv.ErrSyntax"=some 2 by kernel_rfl) (show(Tryz.prog.globals[2]?).map (·.type)=some 31 by kernel_rfl) Tryz.underlying31 Sk Tryz.underlying449 Tryz.underlying451 rfl rfl Tryz.underlying9 bm bm
 exact⟨Tryz.laysM146.s1_3 W ZF,⟨_,_,by have :=World.var?_cell (show Tryz.prog.globalNamed "strconv.ErrSyntax"=some 2 by kernel_rfl) P_ 0;simpa using this⟩,⟨_,_,by have :=World.var?_cell (show Tryz.prog.globalNamed "strconv.ErrRange"=some 3 by kernel_rfl) Kz 0;simpa using this⟩⟩
theorem wE2{H:Type}{P:Program}{t0 t1:TypeId}{ts:List TypeId}{a b:ak}(h:(DataW.weightsEach (H:=H) P (t0::t1::ts) [.lit (.string a.data.toList),.lit (.string b.data.toList)]).all (· <=reachBytes)=true):a.size<=4611686018427387903/\b.size<=4611686018427387903:=by
 have e:DataW.weightsEach (H:=H) P ts []=[]:=by cases ts<;>rfl
 simp[DataW.weightsEach,DataW.weights,e,reachBytes]at h;have h1:=of_decide_eq_true h.1;have h2:=of_decide_eq_true h.2;omega
theorem NL(H:Type)(enc:TypeId×Value->H)(W:World)(base:Nat)(args:Array Value)(ds gs:List (DataW H))(before:List MemPlace)(hval:∀(j:Nat) t v,Tryz.f7.params[j]? =some t->args[j]? =some v->Value.okWide Tryz.prog W .any base t v)(hW:DataW.Whole enc Tryz.prog Tryz.f7.params.toList Rows.deskPiecesSpec.vars false W args.toList ds gs before)(hL:laidMetH Tryz.prog Rows.deskPiecesRow.laid W)(ZF:W.ShapedOpen Tryz.prog)(hWt:(DataW.weightsEach Tryz.prog (Tryz.f7.params.toList++(OpenSpec.ofChange Rows.deskPiecesSpec).bare.plain.varTypes Tryz.prog) (ds++gs)).all (· <=reachBytes)=true):
 Calls Tryz.prog 7 args W fun e W'=> ∃v,e=.returned v/\Rows.deskPiecesSpec.post enc Tryz.prog Tryz.f7 false true false false W args v W':=by
 have hW':=hW;obtain⟨p,q,hA0,hV,rfl,hfz,F7⟩:=hW;have hA:DataW.TrodAll enc Tryz.prog W 0 (fun _=>true) true Tryz.f7.params.toList args.toList ds p:=hA0;have hA2:=hA;rw[Tryz.params7]at hA hval;obtain⟨v0,v1,d0,d1,p0,p1,rfl,rfl,rfl,h0,h1⟩:=trodAll_two hA;obtain⟨rfl,rfl⟩:=trodVars_none hV;have hET:=xN hL;obtain⟨a,rfl,ha,_,_⟩:=Go.ChangeMaps.open_string Tryz.underlying9 (hval 0 9 v0 rfl rfl) h0;obtain⟨b,rfl,Vg,_,_⟩:=Go.ChangeMaps.open_string Tryz.underlying9 (hval 1 9 v1 rfl rfl) h1;have aew:=TF hL;have aeA:=Up hL ZF;have hz:a.size<=4611686018427387903/\b.size<=4611686018427387903:=by
  rw[ha,Vg,Tryz.params7]at hWt;exact wE2 hWt
 have dI:∀x∈p0++p1,x.block<W.heap.size:=fun x hx=>by
  have :=hW'.lt x (List.mem_append_left _ hx);simpa using this
 have YF:Calls Tryz.prog 7 #[.string a,.string b] W fun e W'=>e=.returned (.bool true)/\Below W.heap.size W W':=by
  refine(JZ W [] a b hz aew aeA hET W (St.init W)).mono ?_;rintro e W' ⟨v,L',rfl,⟨rfl,_⟩,_,hb⟩;exact⟨rfl,hb⟩
 refine YF.mono fun e W' ⟨he,hb⟩=>?_
 subst he;simp only[List.append_nil]at hW';exact⟨_,rfl,_,_,_,[],p0++p1,[],hW',trodAll_mk1 (shut_bool Tryz.underlying4 _),Db laidOut hb bm hA2 dI,rfl,hb.frame _,fun h=>by cases h⟩
theorem reads(os:Os){H:Type}(enc:TypeId×Value->H):∃places,DataW.whole enc Tryz.prog ((ln os).forCall (fun _ _=>0) ⟨#[],#[.string ⟨#[]⟩,.string ⟨#[]⟩],[]⟩).memory Tryz.f7.params.toList Rows.deskPiecesSpec.vars false (#[.string ⟨#[]⟩,.string ⟨#[]⟩]:Array Value).toList 8=some ([.lit (.string []),.lit (.string [])],[],places):=
 ⟨[],by kernel_rfl⟩
theorem lifted(os:Os)(started:os.Started)(H:Type)(enc:TypeId×Value->H)(F:Stop.Interp):
 ReturnsInHanded {} Tryz.checked os 7 .any ((OpenSpec.ofChange Rows.deskPiecesSpec).preRow enc Tryz.prog Tryz.f7 Rows.deskPiecesRow.domain false Rows.deskPiecesRow.laid) (((OpenSpec.ofChange Rows.deskPiecesSpec).at F).post enc Tryz.prog Tryz.f7 false true false false):=by
 obtain⟨places,hx⟩:=reads os enc;refine returnsInHanded_of_row (C:=Tryz.checked) (s:=OpenSpec.ofChange Rows.deskPiecesSpec) own started bm Tryz.func7
  (wG (enc:=enc) (C:=Tryz.checked) false (ln os) #[.string ⟨#[]⟩,.string ⟨#[]⟩] (A0 os) (World.shaped_of_ZipB bm bm) bm
   (OpenSpec.preRow_of_cond 8 hx bm (fun k hk=>by cases hk) bm (MD os _))) ?_
 intro W base args ds gs before hval hW _ _ hWt hL ZF _;exact NL H enc W base args ds gs before hval hW hL ZF hWt
theorem j1:(Rows.deskPiecesRow.wf (OpenSpec.ofChange Rows.deskPiecesSpec)&&laidOutB Tryz.prog&&mapsRowed Tryz.prog)=true:=by kernel_rfl
theorem j2:(Tryz.f7.params.all (Tryz.prog.readableRec ·)&&namedTie Tryz.prog Rows.deskPiecesRow.named Rows.deskPiecesSpec.vars&&(Rows.deskPiecesRow.stops==[])&&(Tryz.prog.stops==[])&&(Rows.deskPiecesRow.knobs==[])&&(Tryz.prog.stopKnobs==[]))=true:=by kernel_rfl
theorem j3:(Rows.deskPiecesRow.inPlace==Tryz.prog.inPlace 7)=true:=by kernel_rfl
theorem j4:(Rows.deskPiecesRow.unfollowed==Tryz.prog.unfollowed 7)=true:=by kernel_rfl
theorem j5:(Rows.deskPiecesRow.recurses==Tryz.prog.recurses 7)=true:=by kernel_rfl
theorem j6:(Rows.deskPiecesRow.named==Tryz.prog.varsNamed 7)=true:=by kernel_rfl
theorem j8:(Tryz.prog.stopsHeard&&Tryz.prog.mayEnter&&(Rows.deskPiecesRow.lifted==Tryz.prog.liftsFinal)&&(Tryz.prog.make==some Rows.deskPiecesRow.make))=true:=by kernel_rfl
theorem closed:joinedFacts Tryz.prog 7 Tryz.f7 Rows.deskPiecesSpec Rows.deskPiecesRow=true:=Jq j1 j2 j3 j4 j5 j6 Y33 j8 Y33
theorem said:Rows.DeskPiecesSaid:=
 OpenClaim.holds_of_wide_leaving 7 Tryz.f7 rfl rfl rfl rfl rfl rfl rfl ⟨rfl,rfl,rfl,rfl,rfl⟩ rfl rfl rfl rfl rfl bm Tryz.func7 closed
  (of_decide_eq_true bm) (by unfold Func.isWrapper;first|(rw[if_pos (by decide+kernel)];kernel_rfl)|(rw[if_neg (by decide+kernel)];exact⟨rfl,rfl⟩))
  (fun os started H enc _=>by rw[OpenClaim.pre_eq_preRow];exact sj (lifted os started H enc (fun _ _ _=>0)))
theorem plain(f:FuncId)(fn:Func)(hf:Tryz.pinned.checked.prog.funcNamed "waybill/waybillkeep.DeskPieces"=some f)(hfn:Tryz.pinned.checked.prog.funcs[f]? =some fn):
 true=Tryz.pinned.checked.prog.looks []/\∀(j:Nat) t,fn.params[j]? =some t->Tryz.pinned.checked.prog.wantsStandIn t=false:=by
 obtain rfl:f=7:=Option.some.inj ((show Tryz.prog.funcNamed "waybill/waybillkeep.DeskPieces"=some 7 by kernel_rfl).symm.trans hf) |>.symm
 obtain rfl:fn=Tryz.f7:=(Option.some.inj (Tryz.func7.symm.trans hfn)).symm;refine⟨by kernel_rfl,fun j t ht=>?_⟩;rw[Tryz.params7]at ht;have hm:t∈[9,9]:=by simpa using Array.mem_of_getElem? ht
 have fZ:([9,9].all fun u=> !Tryz.prog.wantsStandIn u)=true:=by kernel_rfl
 exact(show Tryz.prog.wantsStandIn t=false by simpa using aG.1 fZ t hm)
theorem goes:true=Rows.deskPiecesRow.goesBy Tryz.prog:=QF (f:=7) bm (eq_of_beq j4).symm Y33
theorem card:Rows.DeskPiecesCardSaid:=
 ve .later _ _ _ _ said bm deskPieces_row_tie rfl ⟨rfl,rfl⟩ Y33 rfl plain goes
end Go.Proofs.YtjhogocabcdjbabGreatDoor.dpieces
