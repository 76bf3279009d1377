/- TopSolved: for every input the law answers true, and its arguments read as they did. -/
import Derived.Test.YtdmempceikifeaaGreatA32
import Derived.Test.YtdmempceikifeaaGreatA33
import Derived.Test.YtdmempceikifeaaGreatA28
import Derived.Test.YtdmempceikifeaaGreatTopJ1
import Derived.Test.YtdmempceikifeaaGreatTopJ2
set_option maxRecDepth 100000
set_option maxHeartbeats 16000000
namespace Go.Proofs.YtdmempceikifeaaGreat
open Go.RowKit Go.Proofs.Tryz
section
open Go.ChangeAt Go.ChangeShapes Go.WideShapes
theorem Ox:ownKnob prog.godebug=none:=by kernel_rfl
theorem Ah4:laidOutB prog=true:=by kernel_rfl
theorem Va:prog.cellsOf 24=4:=by kernel_rfl
theorem AaO:prog.cellsOf 126=4:=by kernel_rfl
theorem Yp:prog.cellsOf 96=5:=by kernel_rfl
theorem Vt:prog.cellsOf 29=4:=by kernel_rfl
theorem Aec:f3.params.toList.all (λt=>prog.readableRec t&&decide (t<prog.types.size))=true:=by kernel_rfl
theorem MV{H enc P}{W W':World}(O:laidOutB P=true)(hb:Below W.heap.size W W'){sp:Nat->Bool}:∀{ts:List TypeId}{vs:List Value}{E:List (DataW H)}{ps:List MemPlace},(∀t∈ts,P.readableRec t=true/\t<P.types.size)->DataW.TrodAll enc P W 0 (λ_=>true) true ts vs E ps->(∀x∈ps,x.block<W.heap.size)->(∀x∈ps,sp x.block=true)->DataW.TrodAll enc P W' 0 sp true ts vs E ps
 |[],[],[],_,_,h,_,_=>h
 |[],_::_,_,_,_,h,_,_=>by simp[DataW.TrodAll]at h
 |[],[],_::_,_,_,h,_,_=>by simp[DataW.TrodAll]at h
 |_::_,[],_,_,_,h,_,_=>by simp[DataW.TrodAll]at h
 |_::_,_::_,[],_,_,h,_,_=>by simp[DataW.TrodAll]at h
 |t::ts,v::vs,d::E,ps,J,⟨p,q,V,Z,e⟩,T,U=>by subst e;exact⟨p,q,WideElems.Trod_stays O (J t (yx ..)).1 (J t (yx ..)).2 V (λx u=>hb.same (T x (yp _ u))) (λx u=>U x (yp _ u)),MV O hb (λt aa=>J t (yj _ aa)) Z (λx u=>T x (xk _ u)) (λx u=>U x (xk _ u)),rfl⟩
theorem law_post{H enc P}{W W':World}{f:Func}{s:ChangeSpec}{O fresh ab:Bool}{args:Array Value}{u:List (DataW H)}{E:List MemPlace}{T:TypeId} (ac:laidOutB P=true)(ad:(f.params.toList.all λt=>P.readableRec t&&decide (t<P.types.size))=true)(ae:P.underlying T=some .bool)(af:f.resultTypes=#[T])(U:s.vars=[]) (J:DataW.Whole enc P f.params.toList s.vars O W args.toList u [] E) (ag:(s.fn H (u++[])).results=[.lit (.bool true)])(ah:(s.fn H (u++[])).args=u)(aj:(s.fn H (u++[])).vars=[]) (hb:Below W.heap.size W W'):s.post enc P f O fresh ab false W args (.bool true) W':=by have V:∀p∈E,p.block<W.heap.size:=λp ak=>J.lt p ak;have al:=J;obtain⟨p,q,am,Z,aa,_,_⟩:=al;rw[U]at Z;obtain⟨_,rfl⟩:=trodVars_none Z;rw[yg]at aa;subst aa;refine⟨u,[],E,[],E,[],J,?_,?_,?_,hb.frame _,λh=>by cases h⟩;rw[af,ag];exact trodAll_cons_mk (shut_bool ae true) trodAll_mk0;rw[ah];exact MV ac hb (λt an=>by have:=yn.1 ad t an;simpa using this) am V (λx ao=>by simpa using V x ao);rw[U,aj];rfl
theorem Ag7(os:Os)(V:os.Started)(H:Type)(enc:TypeId×Value->H):ReturnsInHanded {} checked os 3 .any (Rows.topSolvedSpec.pre6 enc prog f3 Rows.topSolvedRow.domain false) (Rows.topSolvedSpec.post enc prog f3 false true false false):=by
 refine returnsInHanded_of_change (C:=checked) Ox V (by kernel_rfl) func3 (ChangeSpec.witness6 (enc:=enc) (C:=checked) false ⟨#[],#[.agg #[.int .i64 0,.int .i64 0,.int .i64 0,.slice none 0 0],.slice none 0 0,.agg #[.int .i64 0,.int .i64 0,.int .i64 0,.int .i64 0]],[]⟩ 8 (by kernel_rfl) (by kernel_rfl) (by kernel_rfl) (by kernel_rfl)) ?_;intro W za args Z aF aG J O _ _;have u:∀(j:Nat)t v,f3.params[j]? =some t->args[j]? =some v->Value.okWide prog W .any za t v:=J;have aa:=O;obtain⟨p,q,hA0,ab,rfl,_,_⟩:=O;have T:DataW.TrodAll enc prog W 0 (λ_=>true) true f3.params.toList args.toList Z p:=hA0;rw[params3]at T u;obtain⟨v0,aH,d0,aI,aJ,aK,aL,rfl,rfl,ac,ad⟩:=trodAll_cons T;obtain⟨v1,aM,d1,aN,aO,aP,rfl,rfl,rfl,ae,af⟩:=trodAll_cons ad;obtain⟨U,aQ,d2,aR,aS,aT,rfl,rfl,rfl,ag,ah⟩:=trodAll_cons af;obtain⟨rfl,rfl,rfl⟩:=trodAll_nil ah;obtain rfl:args=#[v0,v1,U]:=by cases args;simp_all
 obtain⟨rfl,rfl⟩:=trodVars_none ab;obtain⟨aj,ak,al,am,an,ao,a0,rfl,aq,t0,u0⟩:=Vo underlying24 (by kernel_rfl) Va ⟨underlying3,underlying3,underlying3,underlying22⟩ underlying126 ⟨underlying3,underlying3,underlying3,underlying3⟩ (by kernel_rfl) AaO (u 0 24 v0 rfl rfl) ac;obtain⟨au,av,aw,ax,rfl,ay,t1⟩:=Adx underlying25 underlying96 ⟨underlying3,underlying3,underlying3,underlying3,underlying3⟩ (by kernel_rfl) Yp (u 1 25 v1 rfl rfl) ae;obtain⟨az,aA,aB,aC,rfl,aD,t2,u2⟩:=Yg underlying29 Vt ⟨rfl,by kernel_rfl,rfl,by kernel_rfl⟩ underlying3 underlying27 ⟨underlying3,underlying3,underlying3⟩ (by kernel_rfl) (u 2 29 U rfl rfl) ag;clear hA0 J;refine(lawTopSolved_c aj ak al am an ao a0 au av aw ax az aA aB aC W aq t0 u0 ay t1 aD t2 u2).mono λe W'⟨aE,hb⟩=>?_;subst aE;exact⟨_,rfl,law_post Ah4 Aec underlying4 rfl rfl aa rfl rfl rfl hb⟩
theorem Aa7:joinedFacts prog 3 f3 Rows.topSolvedSpec Rows.topSolvedRow=true:=by unfold joinedFacts;rw[Ah4,YN,YO,AcT,Aim];kernel_rfl
theorem lawTopSolved.proved:Rows.TopSolvedSaid:=OpenClaim.holds_of_wide 3 f3 rfl rfl rfl rfl rfl rfl rfl ⟨rfl,rfl,rfl,rfl,rfl⟩ rfl rfl rfl rfl rfl (by kernel_rfl) func3 Aa7 (of_decide_eq_true (by kernel_rfl)) (by unfold Func.isWrapper;first|(rw[zq (by decide+kernel)];kernel_rfl)|(rw[zo (by decide+kernel)];exact⟨rfl,rfl⟩)) (λos u H enc _=>Ag7 os u H enc)
end
