import Derived.Test.YtdmempceikifeaaGreatA02
import Derived.Laws.EntriesVeiled
import Derived.Maps.Own
import Derived.Maps.OwnOps
import Derived.Maps.OwnSet
import Derived.Maps.Views
set_option maxRecDepth 100000
set_option maxHeartbeats 16000000
set_option linter.all false
namespace Go.Proofs.YtdmempceikifeaaGreat
open Go.RowKit Tryz
section
open Go.Maps
def DZ:Keyed prog 3:=int_keyed underlying3
def LP(w):(zeroValue 3).run prog w=.ok () w:=by simp_all
def C2{x}(h:-9223372036854775808<=x/\x<=9223372036854775807):(Lit.int .i64 x).wf=true:=WalkArith.wf_i64 Ad
def Cb(w:Aj)(b k:Nat)(f:Int->Int):Prop:=∃D:DataW Unit,w.ownsMap prog 3 (plainElem prog 3) b k D/\IsMap D/\∀x,-9223372036854775808<=x->x<=9223372036854775807->D.atKey (.int .i64 x) (.lit (.int .i64 0))=.lit (.int .i64 (f x))
section
variable{w w'}{b k}{f}
theorem Cb.made(w:Aj):Cb (w.alloc (.map #[] 0)) w 0 λ_=>0:=⟨.map [],aca _ _ _ _,⟨[],rfl⟩,λ_ _ _=>rfl⟩
theorem Cb.lt(h:Cb w b k f):b<w:=let⟨_,u,_⟩:=h;u.lt
theorem Cb.keep(h:Cb w b k f)(e:w'.heap[b]? =w.heap[b]?):Cb w' b k f:=by obtain⟨D,⟨u,cl,hb,r⟩,E⟩:=h;exact⟨D,⟨u,cl,e.trans hb,r⟩,E⟩
theorem Cb.ext(h:Cb w b k f)(u:Ae w w'):Cb w' b k f:=h.keep (u.block b h.lt)
theorem Cb.grown{ze}(h:Cb w b k f)(u:w.grownBy w' ze)(E:some b≠ze):Cb w' b k f:=h.keep (u.block b h.lt E)
theorem Cb.mono{u}(h:Cb w b k f)(E:k<=u):Cb w b u f:=let⟨D,H,J⟩:=h;⟨D,H.mono E,J⟩
theorem Cb.congr{g}(h:Cb w b k f)(e:∀x,f x=g x):Cb w b k g:=by obtain⟨D,u,E,H⟩:=h;exact⟨D,u,E,λx a c=>by rw[H x a c,e]⟩
theorem Cb.run(h:Cb w b k f)(x)(E:-9223372036854775808<=x/\x<=9223372036854775807):(Instr.lookup 174 (.map (some b)) (.int .i64 x) false).run prog w=.ok (.int .i64 (f x)) w:=by obtain⟨D,H,_,J⟩:=h;obtain⟨c,hrun,u,_⟩:=H.lookup_int DZ underlying174 underlying3 (LP w) (keyOf_int_mk underlying3 (C2 E));rw[J x E.1 E.2]at u;injection u with u;injection u with _ u;rw[hrun,u]
theorem Cb.set(h:Cb w b k f)(aa:k<=1000000000000000000)(x y)(E:-9223372036854775808<=x/\x<=9223372036854775807)(H:-9223372036854775808<=y/\y<=9223372036854775807):∃w',(Instr.mapUpdate 174 (.map (some b)) (.int .i64 x) (.int .i64 y)).run prog w=.ok () w'/\Cb w' b (k+1) (λz=>if z=x then y else f z)/\w.grownBy w' (some b):=by obtain⟨D,J,u,O⟩:=h;obtain⟨w',hrun,T,U⟩:=J.update DZ underlying174 (by unfold maxLen;omega) (keyOf_int_mk underlying3 (C2 E)) (plainElem_int underlying3 (C2 H));refine⟨w',hrun,⟨_,T,?_,λz V Z=>?_⟩,U⟩;obtain⟨ab,rfl⟩:=u;exact⟨_,rfl⟩;show _=DataW.lit (Lit.int .i64 (if z=x then y else f z));by_cases e:z=x;subst e;rw[zq rfl,atKey_put_same u (by trivial)];rw[zo e,atKey_put_other (λh=>e (by injection h)),O z V Z]
end
def H6(w){zf rest o a Q}(u:o.guard=none)(m x)(E:o.op=Op.lookup 174 m x false) (b k f)(H:a.eval m=.map (some b))(J:Cb w b k f)(y)(O:a.eval x=.int .i64 y)(T:-9223372036854775808<=y/\y<=9223372036854775807) (U:wpList prog zf Q rest (a.put o.dst (.int .i64 (f y))) w):wpList prog zf Q (o::rest) a w:=by refine x5 u λZ V=>?_;unfold Oper.wp;simp[execOp,E,H,O,J.run y T,Result.andThen];exact V _ _ U
def Ed(w){zf rest o a Q}(E:o.guard=none)(m x v)(H:o.op=Op.mapUpdate 174 m x v) (b k f)(J:a.eval m=.map (some b))(O:Cb w b k f)(T:k<=1000000000000000000)(y z)(U:a.eval x=.int .i64 y)(V:a.eval v=.int .i64 z) (Z:-9223372036854775808<=y/\y<=9223372036854775807)(aa:-9223372036854775808<=z/\z<=9223372036854775807) (ab:∀w',Cb w' b (k+1) (λu=>if u=y then z else f u)->w.grownBy w' (some b)->wpList prog zf Q rest (a.put o.dst undef) w'):wpList prog zf Q (o::rest) a w:=by refine x5 E λaf ac=>?_;obtain⟨w',hrun,ad,ae⟩:=O.set T y z Z aa;unfold Oper.wp;simp[execOp,H,J,U,V,hrun,Result.andThen];exact ac _ _ (ab w' ad ae)
def Cg(xs:An)(x:Int):Int:=(xs.count x:Nat)
def OV:Cg []=λ_=>0:=by grind[Cg]
def KU(xs y):(λu=>if u=y then Cg xs y+1 else Cg xs u)=Cg (xs++[y]):=by grind[Cg]
def LR(xs x):0<=Cg xs x/\Cg xs x<=xs.length:=by grind[Cg,List.count_le_length]
def EX(w:Aj)(b k:Nat)(f:Int->Option Int):Prop:=∃D:DataW Unit,w.ownsMap prog 3 (plainElem prog 3) b k D/\IsMap D/\∀x,-9223372036854775808<=x->x<=9223372036854775807->Maps.has D (.int .i64 x)=(f x).isSome/\D.atKey (.int .i64 x) (.lit (.int .i64 0))=.lit (.int .i64 ((f x).getD 0))
section
variable{w w'}{b k}{f}
theorem EX.made(w:Aj):EX (w.alloc (.map #[] 0)) w 0 λ_=>none:=⟨.map [],aca _ _ _ _,⟨[],rfl⟩,λ_ _ _=>⟨rfl,rfl⟩⟩
theorem EX.lt(h:EX w b k f):b<w:=let⟨_,u,_⟩:=h;u.lt
theorem EX.keep(h:EX w b k f)(e:w'.heap[b]? =w.heap[b]?):EX w' b k f:=by obtain⟨D,⟨u,cl,hb,r⟩,E⟩:=h;exact⟨D,⟨u,cl,e.trans hb,r⟩,E⟩
theorem EX.ext(h:EX w b k f)(u:Ae w w'):EX w' b k f:=h.keep (u.block b h.lt)
theorem EX.grown{ze}(h:EX w b k f)(u:w.grownBy w' ze)(E:some b≠ze):EX w' b k f:=h.keep (u.block b h.lt E)
theorem EX.mono{u}(h:EX w b k f)(E:k<=u):EX w b u f:=let⟨D,H,J⟩:=h;⟨D,H.mono E,J⟩
theorem EX.bq{za v xs}(h:EX w b k f)(u:Ay w za v xs):some b≠v.ownBlock:=by obtain⟨D,⟨E,cl,hb,_⟩,_⟩:=h;rcases u.2 with⟨rfl,_⟩|⟨g,zh,H,rfl,_,J,_⟩;simp[Value.ownBlock];grind[Value.ownBlock]
theorem EX.ai{g t u}(h:EX w b k f)(E:Aq w g t u):b≠g:=by obtain⟨D,⟨H,cl,hb,_⟩,_⟩:=h;grind[Aq]
theorem EX.set(h:EX w b k f)(aa:k<=1000000000000000000)(x y)(E:-9223372036854775808<=x/\x<=9223372036854775807)(H:-9223372036854775808<=y/\y<=9223372036854775807):∃w',(Instr.mapUpdate 174 (.map (some b)) (.int .i64 x) (.int .i64 y)).run prog w=.ok () w'/\EX w' b (k+1) (λz=>if z=x then some y else f z)/\w.grownBy w' (some b):=by obtain⟨D,J,u,O⟩:=h;obtain⟨w',hrun,T,U⟩:=J.update DZ underlying174 (by unfold maxLen;omega) (keyOf_int_mk underlying3 (C2 E)) (plainElem_int underlying3 (C2 H));refine⟨w',hrun,⟨_,T,?_,λz V Z=>?_⟩,U⟩;obtain⟨ab,rfl⟩:=u;exact⟨_,rfl⟩;dsimp only;by_cases e:z=x;subst e;rw[zq rfl,atKey_put_same u (by trivial),has_put_same u (by trivial)];exact⟨rfl,rfl⟩;rw[zo e,atKey_put_other (λh=>e (by injection h)),has_put_other (λh=>e (by injection h))];exact O z V Z
end
end
section
open Go.Maps
structure NG(T e:TypeId)(z:Aw):Prop where
 cX:prog.underlying T=some (.map 3 e)
 zero:∀w:Aj,(zeroValue e).run prog w=.ok z w
def N7(v:Aw):Option (DataW Aw×List MemPlace):=some (.held v,[])
def Bj(x:Int):Prop:=-9223372036854775808<=x/\x<=Bh
def BB(w:Aj)(b:Nat)(ks:An)(f:Int->Option Aw):Prop:=(∃D:DataW Aw,w.ownsMap prog 3 N7 b ks.length D/\Maps.size D=ks.length/\∀x,Bj x->Maps.has D (.int .i64 x)=(f x).isSome/\∀z:Aw,D.atKey (.int .i64 x) (.held z)=.held ((f x).getD z))/\ks.Nodup/\(∀x,x∈ks↔(f x).isSome=true)/\∀x∈ks,Bj x
section
variable{w w':World}{b:Nat}{ks:List Int}{f:Int->Option Value}{T e:TypeId}{z:Value}{F:Nat->Prop}
theorem BB.made(w:Aj):BB (w.alloc (.map #[] 0)) w [] λ_=>none:=⟨⟨.map [],aca _ _ _ _,rfl,λ_ _=>⟨rfl,λ_=>rfl⟩⟩,ab8,AG,AG⟩
theorem BB.lt(h:BB w b ks f):b<w:=let⟨⟨_,u,_⟩,_⟩:=h;u.lt
theorem BB.keep(h:BB w b ks f)(u:w'.heap[b]? =w.heap[b]?):BB w' b ks f:=by obtain⟨⟨D,⟨E,cl,hb,r⟩,H⟩,J⟩:=h;exact⟨⟨D,⟨E,cl,u.trans hb,r⟩,H⟩,J⟩
theorem BB.ext(h:BB w b ks f)(u:Ae w w'):BB w' b ks f:=h.keep (u.block b h.lt)
theorem BB.stay(h:BB w b ks f)(u:Au F w w')(hb:¬F b):BB w' b ks f:=h.keep (u.block b h.lt hb)
theorem BB.grown{ze:Option Nat}(h:BB w b ks f)(u:w.grownBy w' ze)(E:some b≠ze):BB w' b ks f:=h.keep (u.block b h.lt E)
theorem BB.isMap(h:BB w b ks f):∃u cl,w.heap[b]? =some (.map u cl):=let⟨⟨_,⟨u,cl,hb,_⟩,_⟩,_⟩:=h;⟨u,cl,hb⟩
theorem BB.ai{g:Nat}{t:TypeId}{u:Ck}(h:BB w b ks f)(E:Aq w g t u):b≠g:=by obtain⟨H,cl,hb⟩:=h.isMap;grind[Aq]
theorem BB.bq{za:Nat}{t:TypeId}{i n:Nat}{v:Aw}{u:List Aw}(h:BB w b ks f)(E:w.ownsRow za t i v n u):some b≠v.ownBlock:=by obtain⟨H,cl,hb⟩:=h.isMap;rcases E.2 with⟨rfl,_⟩|⟨g,zh,J,rfl,_,O,_⟩;simp[Value.ownBlock];grind[Value.ownBlock]
theorem BB.congr{g:Int->Option Aw}(h:BB w b ks f)(u:∀x,f x=g x):BB w b ks g:=by have:f=g:=funext u;rw[<-this];exact h
theorem XA{x:Int}(u:Bj x):keyOf prog 3 (.int .i64 x)=some (.int .i64 x):=keyOf_int_mk underlying3 (C2 u)
theorem BB.look(M:NG T e z)(h:BB w b ks f){x:Int}(E:Bj x):(Instr.lookup T (.map (some b)) x false).run prog w=.ok ((f x).getD z) w:=by
 obtain⟨⟨D,H,_,J⟩,_⟩:=h;obtain⟨v,ps,hrun,u⟩:=H.lookup DZ M.cX (M.zero w) (zd:=.held z) (zp:=[]) rfl (XA E);rw[(J x E).2 z]at u;rw[hrun];have:v=(f x).getD z:=by unfold N7 at u;injection u with u;injection u with u _;injection u
 rw[this]
theorem BB.eW(M:NG T e z)(h:BB w b ks f){x:Int}(E:Bj x):(Instr.lookup T (.map (some b)) x true).run prog w=.ok (.tuple #[(f x).getD z,.bool (f x).isSome]) w:=by
 obtain⟨⟨D,J,_,H⟩,_⟩:=h;obtain⟨v,ps,hrun,u⟩:=J.look_ok DZ M.cX (M.zero w) (zd:=.held z) (zp:=[]) rfl (XA E);rw[(H x E).2 z]at u;rw[hrun,(H x E).1];have:v=(f x).getD z:=by unfold N7 at u;injection u with u;injection u with u _;injection u
 rw[this]
theorem Nb{D:DataW Aw}{n:Nat}(h:w.ownsMap prog 3 N7 b n D):w.ownsMap prog 3 N7 b (Maps.size D) D:=by obtain⟨E,cl,hb,F,H,u⟩:=h;exact⟨E,cl,hb,F,by rw[u];simp[Maps.size,length_sorted],u⟩
def J0(ks:An)(x:Int):An:=if x∈ks then ks else ks++[x]
theorem Lf{ks:An}{x y:Int}:y∈J0 ks x↔y=x\/y∈ks:=by unfold J0;grind
theorem KX(ks:An)(x:Int):(J0 ks x).length<=ks.length+1:=by unfold J0;split<;>simp
theorem RY{ks:An}{x y:Int}:y∈ks.filter (λk=>decide (k≠x))↔y∈ks/\y≠x:=by rw[ye];simp
theorem BB.set(M:NG T e z)(h:BB w b ks f)(ah:ks.length<=1000000000000000000){x:Int}(J:Bj x)(y:Aw):∃w',(Instr.mapUpdate T (.map (some b)) x y).run prog w=.ok () w'/\BB w' b (J0 ks x) (λu=>if u=x then some y else f u)/\w.grownBy w' (some b):=by
 obtain⟨⟨D,Z,aa,O⟩,ab,U,ad⟩:=h;obtain⟨w',hrun,ae,af⟩:=Z.update DZ M.cX (by unfold maxLen;omega) (XA J) (d:=.held y) (ps:=[]) rfl;have V:=Z.tidy DZ;have ac:Maps.size (D.put (.int .i64 x) (.held y))=(J0 ks x).length:=by rw[size_put V,(O x J).1];unfold J0;by_cases E:x∈ks;rw[zq E,(U x).1 E,zq rfl,aa];rw[zo E,zo (by rw[<-U];exact E),zu,aa];rfl
 refine⟨w',hrun,⟨⟨_,ac▸Nb ae,ac,λu H=>?_⟩,?_,λu=>?_,λu H=>?_⟩,af⟩;dsimp only;by_cases e:u=x;subst e;rw[zq rfl,has_put_same V.isMap (by trivial)];exact⟨rfl,λz=>by rw[atKey_put_same V.isMap (by trivial)];rfl⟩;rw[zo e,has_put_other (λh=>e (by injection h))];exact⟨(O u H).1,λz=>by rw[atKey_put_other (λh=>e (by injection h))];exact(O u H).2 z⟩;unfold J0;by_cases E:x∈ks;rw[zq E];exact ab;rw[zo E,y2];exact⟨ab,AG,λa ag b hb=>by simp at hb;subst hb;rintro rfl;exact E ag⟩;rw[Lf];by_cases e:u=x;subst e;simp;simp[e,U u];rcases Lf.1 H with rfl|H;exact J;exact ad u H
theorem BB.del(M:NG T e z)(h:BB w b ks f){x:Int}(ac:Bj x)(ad:TypeId):∃w',(Builtin.delete_ #[T,3] ad #[.map (some b),x]).run prog w=.ok (.tuple #[]) w'/\BB w' b (ks.filter λk=>decide (k≠x)) (λu=>if u=x then none else f u)/\w.grownBy w' (some b):=by
 obtain⟨⟨D,aa,al,O⟩,U,H,ae⟩:=h;obtain⟨w',hrun,af,ag⟩:=aa.drop DZ M.cX (XA ac) ad;have ah:=aa.tidy DZ;have aj:Maps.size (D.del (.int .i64 x))=(ks.filter λk=>decide (k≠x)).length:=by
  have V:=size_del (k:=.int .i64 x) ah;rw[(O x ac).1]at V;have ak:(ks.filter λk=>decide (k≠x)).length+(if x∈ks then 1 else 0)=ks.length:=by
   clear aa al O H ae af ag hrun V ah;induction ks with
   |nil=>rfl
   |cons a ks J=>
    rw[xx]at U;have J:=J U.2;by_cases ab:a=x;subst ab;rw[aao AG,zq AG,List.length_cons];rw[zo U.1]at J;omega;rw[aap (by simpa using ab),List.length_cons,List.length_cons];have H:x∈a::ks↔x∈ks:=by rw[xl];exact⟨λh=>h.resolve_left λe=>ab e.symm,.inr⟩
    by_cases E:x∈ks;rw[zq E]at J;rw[zq (H.2 E)];omega;rw[zo E]at J;rw[zo (λh=>E (H.1 h))];omega
  by_cases E:x∈ks;rw[zq E]at ak;rw[zq ((H x).1 E)]at V;omega;rw[zo E]at ak;rw[zo (by rw[<-H];exact E)]at V;omega
 refine⟨w',hrun,⟨⟨_,aj▸Nb af,aj,λu Z=>?_⟩,U.filter _,λu=>?_,λu Z=>ae u (RY.1 Z).1⟩,ag.grown⟩;dsimp only;by_cases e:u=x;subst e;rw[zq rfl,has_del_same];exact⟨rfl,λz=>by rw[atKey_del_same];rfl⟩;rw[zo e,has_del_other (λh=>e (by injection h))];exact⟨(O u Z).1,λz=>by rw[atKey_del_other (λh=>e (by injection h))];exact(O u Z).2 z⟩;rw[RY];by_cases e:u=x;subst e;simp;simp[e,H u]
theorem BB.dh(h:BB w b ks f){L:An}(u:∀x,(f x).isSome=true->x∈L):ks.length<=L.length:=by obtain⟨_,E,H,_⟩:=h;exact yf E λx J=>u x ((H x).1 J)
end
def Lt{T e:TypeId}{z:Aw}(M:NG T e z)(w:Aj){zf:Array Oper}{rest:List Oper}{o:Oper}{a:Act}{Q:Exit->Act->Aj->Prop}(E:o.guard=none)(m x v:Operand)(H:o.op=Op.mapUpdate T m x v) (b:Nat)(ks:An)(f:Int->Option Aw)(J:a.eval m=.map (some b))(O:BB w b ks f)(U:ks.length<=1000000000000000000)(y:Int)(u:Aw)(V:a.eval x=y)(Z:a.eval v=u)(aa:Bj y) (ab:∀w',BB w' b (J0 ks y) (λt=>if t=y then some u else f t)->w.grownBy w' (some b)->wpList prog zf Q rest (a.put o.dst undef) w'):wpList prog zf Q (o::rest) a w:=by refine x5 E λaf ac=>?_;obtain⟨w',hrun,ad,ae⟩:=O.set M U aa u;unfold Oper.wp;simp[execOp,H,J,V,Z,hrun,Result.andThen];exact ac _ _ (ab w' ad ae)
def V5{T e:TypeId}{z:Aw}(M:NG T e z)(w:Aj){zf:Array Oper}{rest:List Oper}{o:Oper}{a:Act}{Q:Exit->Act->Aj->Prop}(u:o.guard=none)(m x:Operand) (E:o.op=Op.call {callee:=Callee.builtin Builtin.delete,args:=#[m,x],argTypes:=#[T,3]}) (b:Nat)(ks:An)(f:Int->Option Aw)(H:a.eval m=.map (some b))(J:BB w b ks f)(y:Int)(O:a.eval x=y)(U:Bj y) (V:∀w',BB w' b (ks.filter λk=>decide (k≠y)) (λt=>if t=y then none else f t)->w.grownBy w' (some b)->wpList prog zf Q rest (a.put o.dst (.tuple #[])) w'):wpList prog zf Q (o::rest) a w:=by refine x5 u λad Z=>?_;obtain⟨w',hrun,aa,ab⟩:=J.del M U o.type;unfold Oper.wp;simp[execOp,E,resolve,invoke,builtin,H,O,hrun,Result.andThen];exact Z _ _ (V w' aa ab)
end
section
open Go.Maps
def YU(v:Aw):Option (DataW Aw×List MemPlace):=some (.held v,[])
def Ik:Aw:=AI
def CB(w:Aj)(b k:Nat)(f:Int->Option Aw):Prop:=∃D,w.ownsMap prog 3 YU b k D/\IsMap D/\∀x,-9223372036854775808<=x->x<=9223372036854775807->Maps.has D (.int .i64 x)=(f x).isSome/\D.atKey (.int .i64 x) (.held Ik)=.held ((f x).getD Ik)
section
variable{w w':World}{b k:Nat}{f:Int->Option Value}
theorem CB.made(w:Aj):CB (w.alloc (.map #[] 0)) w 0 λ_=>none:=⟨.map [],aca _ _ _ _,⟨[],rfl⟩,λ_ _ _=>⟨rfl,rfl⟩⟩
theorem CB.lt(h:CB w b k f):b<w:=let⟨_,u,_⟩:=h;u.lt
theorem CB.keep(h:CB w b k f)(e:w'.heap[b]? =w.heap[b]?):CB w' b k f:=by obtain⟨D,⟨u,cl,hb,r⟩,E⟩:=h;exact⟨D,⟨u,cl,e.trans hb,r⟩,E⟩
theorem CB.ext(h:CB w b k f)(u:Ae w w'):CB w' b k f:=h.keep (u.block b h.lt)
theorem CB.mono{u}(h:CB w b k f)(E:k<=u):CB w b u f:=let⟨D,H,J⟩:=h;⟨D,H.mono E,J⟩
theorem CB.bq{za t i n v u}(h:CB w b k f)(E:w.ownsRow za t i v n u):some b≠v.ownBlock:=by
 obtain⟨D,⟨J,cl,hb,_⟩,_⟩:=h;rcases E.2 with⟨rfl,_⟩|⟨g,zh,O,rfl,_,H,_⟩;simp[Value.ownBlock];intro e;have e':b=g:=by simpa[Value.ownBlock]using e
 subst e';rw[H]at hb;cases hb
theorem CB.ai{g t E}(h:CB w b k f)(u:Aq w g t E):b≠g:=by obtain⟨D,⟨H,cl,hb,_⟩,_⟩:=h;rintro rfl;unfold Aq at u;rw[u]at hb;cases hb
theorem CB.set(h:CB w b k f)(Z:k<=1000000000000000000)(x y)(E:-9223372036854775808<=x/\x<=9223372036854775807):∃w',(Instr.mapUpdate 341 (.map (some b)) (.int .i64 x) y).run prog w=.ok () w'/\CB w' b (k+1) (λz=>if z=x then some y else f z)/\w.grownBy w' (some b):=by obtain⟨D,H,u,J⟩:=h;obtain⟨w',hrun,O,T⟩:=H.update DZ underlying341 (by unfold maxLen;omega) (keyOf_int_mk underlying3 (C2 E)) (d:=.held y) (ps:=[]) rfl;refine⟨w',hrun,⟨_,O,?_,λz U V=>?_⟩,T⟩;obtain⟨aa,rfl⟩:=u;exact⟨_,rfl⟩;dsimp only;by_cases e:z=x;subst e;rw[zq rfl,atKey_put_same u (by trivial),has_put_same u (by trivial)];exact⟨rfl,rfl⟩;rw[zo e,atKey_put_other (λh=>e (by injection h)),has_put_other (λh=>e (by injection h))];exact J z U V
theorem CB.look(h:CB w b k f)(x)(E:-9223372036854775808<=x/\x<=9223372036854775807):(Instr.lookup 341 (.map (some b)) (.int .i64 x) true).run prog w=.ok (.tuple #[(f x).getD Ik,.bool (f x).isSome]) w:=by
 obtain⟨D,H,_,J⟩:=h;obtain⟨O,T⟩:=J x E.1 E.2;obtain⟨v,ps,hrun,u⟩:=H.look_ok DZ underlying341 (z:=Ik) (by kernel_rfl) (zd:=.held Ik) (zp:=[]) rfl (keyOf_int_mk underlying3 (C2 E));rw[T]at u;rw[hrun,O];have:v=(f x).getD Ik:=by unfold YU at u;injection u with u;injection u with u _;injection u
 rw[this]
end
def T3(w:Aj)(v:Aw)(F:Int->Option AT):Prop:=∃f:Int->Option Value,(∀W,Ae w W->∀x,-9223372036854775808<=x/\x<=9223372036854775807->(Instr.lookup 341 v (.int .i64 x) true).run prog W=.ok (.tuple #[(f x).getD Ik,.bool (f x).isSome]) W)/\∀x,match f x,F x with|none,none=>True|some u,some L=>∃A n c,u=.slice A n c/\n<=10000000/\Bf w A n L|_,_=>False
def T3.ext{w w' v F}(h:T3 w v F)(u:Ae w w'):T3 w' v F:=by obtain⟨f,E,H⟩:=h;refine⟨f,λW J=>E W (u.trans J),λx=>?_⟩;have:=H x;revert this;split;exactλa=>a;rintro⟨A,n,c,e,O,T⟩;exact⟨A,n,c,e,O,T.ext u⟩;exactλa=>a
def T3.at{w v F}(h:T3 w v F)(x)(H:-9223372036854775808<=x/\x<=9223372036854775807):∃A n c,(∀W,Ae w W->(Instr.lookup 341 v (.int .i64 x) true).run prog W=.ok (.tuple #[.slice A n c,.bool (F x).isSome]) W)/\n<=10000000/\Bf w A n ((F x).getD []):=by obtain⟨f,J,O⟩:=h;have e:=O x;cases u:f x<;>cases hF:F x<;>rw[u,hF]at e;refine⟨none,0,0,λW E=>?_,by omega,Bf.nil _⟩;have:=J W E x H;rw[u]at this;exact this;exact e.elim;exact e.elim;obtain⟨A,n,c,rfl,T,U⟩:=e;refine⟨A,n,c,λW E=>?_,T,U⟩;have:=J W E x H;rw[u]at this;exact this
end
section
open Go.Maps
def Ir(l):0<=Ak l/\Ak l<=100000:=by unfold Ak;split<;>(try split)<;>omega
theorem FB{l}(h:Ak l≠0):l≠0/\-100000<=l/\l<=100000:=by revert h;unfold Ak;split<;>(try split)<;>omega
def Bd(xs:An)(x:Int):Bool:=xs.any (· ==x)
def OY(xs x):decide (0<Cg xs x)=Bd xs x:=by unfold Cg Bd;rw[acb,z8,y7];simp_all
def Ks(xs:An)(x:Int):Int:=match xs.findIdx? (· ==x)with|some k=>k|none=>-1
def DU{u:Type}{p}{xs:List u}{y k}(h:(xs.take k).findIdx? p=none)(E:xs[k]? =some y)(H:p y=false):(xs.take (k+1)).findIdx? p=none:=by rw[AM E,List.findIdx?_append,h];simp_all
def Gq{u:Type}{p}{xs:List u}{y k}(h:(xs.take k).findIdx? p=none)(E:xs[k]? =some y)(H:p y=true):xs.findIdx? p=some k:=by have J:=(zl.1 E).1;rw[yq];grind[List.getElem?_eq_some_iff,List.findIdx?_eq_none_iff,List.mem_take_iff_getElem]
def AeY(A n c xs x w)(h:AB w A n xs):Calls prog 174 #[.slice A n c,.int .i64 x] w λe w'=>e=.returned (.int .i64 (Ks xs x))/\w=w':=by
 have T:=h.len;go_enter func174,ntmps174;go_wp2;go_loop[8](λi=>∃k,k<=n/\i=.int .i64 k/\(xs.take k).findIdx? (· ==x)=none)(λi=>n-(intOf i).toNat);case atStart=>grind
 case round=>
  obtain⟨k,U,rfl,E⟩:=hrel;have u:=zk E;clear E;by_cases H:k<n;obtain⟨V,y,rfl,J,Z,aa,ab⟩:=h.at_ H;by_cases O:x=y;subst O;go_wp2;go_ret;exact⟨Bn (by rw[Ks,Gq u J (by simp)]),rfl⟩;have hb:(x==y)=false:=by simp_all
  skip;go_wp2;go_round;case rel=>exact⟨k+1,by omega,by go_num,DU u J (by grind)⟩
  grind[intOf];go_wp2;go_ret;refine⟨Bn ?_,rfl⟩;have:=u.out;rw[CI h.1 H]at this;rw[Ks,this]
def AeE(xs x):decide (0<=Ks xs x)=Bd xs x:=by grind[Ks,Bd,List.findIdx?_eq_none_iff,List.any_eq_false,List.findIdx?_eq_some_iff_getElem,List.any_eq_true]
def EF(A n c xs x w)(h:AB w A n xs):Calls prog 121 #[.slice A n c,.int .i64 x] w λe w'=>e=.returned (.bool (Bd xs x))/\w=w':=by
 go_enter func121,ntmps121;go_wp2_with(go_at_call 174;refine(AeY _ _ _ xs _ _ h).mono ?_;rintro e w'⟨rfl,rfl⟩)
 go_ret;exact⟨Bo (AeE xs x),rfl⟩
def BK(xs:An)(x:Int):Int:=if Ak x=0 then 0 else if Bd xs x then 1 else if Bd xs (-x)then-1 else 0
def Acn(xs x):-1<=BK xs x/\BK xs x<=1:=by grind[BK]
def Ajh(A n c xs x w)(h:AB w A n xs):Calls prog 375 #[.slice A n c,.int .i64 x] w λe w'=>e=.returned (BK xs x)/\w=w':=by
 by_cases u:Ak x=0;have E:=zk u;have hb:(Ak x==0)=true:=by simp_all
 clear u;go_enter func375,ntmps375;go_wp2_with(go_at_call 141;refine(BF _ _).mono ?_;rintro e w'⟨rfl,rfl⟩)
 go_ret;exact⟨Bn (by rw[BK,zq E.out]),rfl⟩;obtain⟨_,H,J⟩:=FB u;have E:=zk u;have hb:(Ak x==0)=false:=by simp_all
 clear u;go_enter func375,ntmps375;go_wp2_with(first
  |(go_at_call 141;refine(BF _ _).mono ?_;rintro e w'⟨rfl,rfl⟩)
  |(go_at_call 121;refine(EF _ _ _ xs _ _ h).mono ?_;rintro e w'⟨rfl,rfl⟩))
 all_goals go_ret;exact⟨Bn (by rw[BK,zo E];simp[*]),rfl⟩
def NM(b k xs x p w)(U:w.cell? p=some (.map (some b)))(J:Cb w b k (Cg xs))(u:Ak x≠0):AC 316 #[x,.pointer (some p)] w λe w'=>e=.returned (BK xs x)/\w=w':=by
 obtain⟨_,V,Z⟩:=FB u;have E:=OY xs x;have H:=OY xs (-x);have O:=zk E;have T:=zk H;clear E H;go_enter func316,ntmps316;go_wp2_with(at_lookup;refine H6 _ rfl _ _ rfl _ _ _ rfl J _ rfl Ad ?_)
 all_goals go_ret;refine⟨Bn ?_,rfl⟩;rw[BK,zo u,<-O.out,<-T.out];grind
def Acs(xs:An)(w:Aj)(e:Bz)(w':Aj):Prop:=∃p b,e=.returned (.func (.func 316) #[] #[.pointer (some p)])/\w'.cell? p=some (.map (some b))/\Cb w' b xs.length (Cg xs)/\Ae w w'
def Pp(A n c xs w)(h:AB w A n xs)(ae:n<=1000000000000):AC 256 #[.slice A n c] w (Acs xs w):=by
 have af:=λ(n:Int)(W:Aj)=>F4 (P:=prog) 174 3 3 .i64 n underlying174 W;go_enter func256,ntmps256;go_wp2;go_loopw[11](λi wr=>∃k,k<=n/\i=k/\Cb wr w k (Cg (xs.take k))/\Aq wr (w+1) 174 #[.map (some w)]/\Ae w wr)(λi _=>n-(intOf i).toNat);case atStart=> refine⟨0,zx _,rfl,?_,?_,((Ae.refl _).alloc _).alloc _⟩;rw[List.take_zero,OV];exact(Cb.made w).ext ((Ae.refl _).alloc _);have:=Aq.new (w.alloc (.map #[] 0)) 174 #[Value.map (some w)];rw[z3]at this;exact this
 case round=>
  obtain⟨k,ag,rfl,u,E,H⟩:=hrel;have Z:=E.cell 0;skip;by_cases J:k<n;obtain⟨ah,x,rfl,aa,aj,O,T⟩:=(h.ext H).at_ J;have U:=LR (xs.take k) x;have ab:(xs.take k).length<=k:=aa4 _ _;have ak:=U.1;have al:Cg (xs.take k) x<=1000000000000:=Ad;clear U ab;go_wp2_with(first
   |(at_lookup;refine H6 _ rfl _ _ rfl _ _ _ rfl u _ rfl ⟨O,T⟩ ?_)
   |(at_mapUpdate;refine Ed _ rfl _ _ _ rfl _ _ _ rfl u Ad _ _ rfl rfl ⟨O,T⟩ Ad ?_;intro w2 ac V;skip))
  go_roundw;case rel=> refine⟨k+1,Ad,by go_num,?_,E.keep (V.block _ E.lt AG),H.grown V (λj ad=>by cases ad;exact zs _)⟩;rw[AM aa,<-KU];exact ac
  case measure=>simp[intOf];omega
  go_wp2;go_ret;refine⟨_,_,rfl,Z,?_,H⟩;have:=u;rw[CI h.1 J]at this;exact this.mono (by have:=h.1;omega)
def CM{u:Type}(p:u->Bool)(xs:List u):Int:=match xs.findIdx? p with|some k=>k|none=>-1
def Enters(F:Nat):Prop:=∀args w,Sem.run prog (callFunc F args) w=.ok (.enter F args) w
def Vr:Enters 412:=by intro args w;go_simp
def V6:Enters 213:=by intro args w;go_simp
def Sh(A n c xs p F q w)(h:AB w A n xs) (hF:Enters F) (U:∀x,x∈xs->AC F #[x,q] w λe w'=>e=.returned (.bool (p x))/\w=w'):AC 289 #[.slice A n c,.func (.func F) #[] #[q]] w λe w'=>e=.returned (CM p xs)/\w=w':=by
 have V:=h.len;go_enter func289,ntmps289;go_wp2;go_loop[8](λi=>∃k,k<=n/\i=k/\(xs.take k).findIdx? p=none)(λi=>n-(intOf i).toNat);case atStart=>grind
 case round=>
  obtain⟨k,Z,rfl,J⟩:=hrel;have u:=zk J;clear J;by_cases O:k<n
  . obtain⟨aa,y,rfl,E,ab,ac,ad⟩:=h.at_ O;cases T:p y;all_goals
     have H:=zk T;clear T;go_wp2_with fail
     rw[hF,x7];refine(U y (zm E)).mono ?_;rintro e w'⟨rfl,rfl⟩;rw[H.out];go_wp2
    go_round;case rel=>exact⟨k+1,Ad,by go_num,DU u E H⟩
    grind[intOf];go_ret;exact⟨Bn (by rw[CM,Gq u E H]),rfl⟩
  go_wp2;go_ret;refine⟨Bn ?_,rfl⟩;have:=u.out;rw[CI h.1 O]at this;rw[CM,this]
def Hk(A n c xs p F q w)(h:AB w A n xs) (hF:Enters F) (u:∀x,x∈xs->AC F #[x,q] w λe w'=>e=.returned (.bool (p x))/\w=w'):AC 212 #[.slice A n c,.func (.func F) #[] #[q]] w λe w'=>e=.returned (.bool (xs.any p))/\w=w':=by
 go_enter func212,ntmps212;go_wp2_with(go_at_call 289;refine(Sh _ _ _ xs p _ _ _ h hF u).mono ?_;rintro e w'⟨rfl,rfl⟩)
 go_ret;refine⟨Bo ?_,rfl⟩;grind[CM,List.findIdx?_eq_none_iff,List.any_eq_false,List.findIdx?_eq_some_iff_getElem,List.any_eq_true,List.getElem_mem]
def CZ(l c:An)(v:Int):Int:=(c.countP λx=>decide (Ak x≠0)&&decide (BK l x=v):Nat)
def O8(l c x v):CZ l (c++[x]) v=CZ l c v+if Ak x≠0/\BK l x=v then 1 else 0:=by unfold CZ;rw[List.countP_append,List.countP_singleton];grind
def G4(l c v):0<=CZ l c v/\CZ l c v<=c.length:=by grind[CZ,List.countP_le_length,Ak,BK]
def B3(w:Aj)(g:Nat)(a b c:Int):Prop:=Aq w g 440 #[a,b,c]
def N9(A:AD)(n c:Nat)(l:An)(A':AD)(n' c':Nat)(cl:An)(w:Aj)(h:AB w A n l)(ak:AB w A' n' cl)(aA:n<=1000000000000):AC 411 #[.slice A n c,.slice A' n' c'] w λe w'=>e=.returned (.agg #[(CZ l cl 1),(CZ l cl (-1)),(CZ l cl 0)])/\Ae w w':=by
 have aI:=ak.len;go_enter func411,ntmps411;go_wp2_with fail
 refine(Pp _ _ _ _ _ (h.ext ((Ae.refl _).alloc _)) aA).mono ?_;rintro e al⟨p,b,rfl,au,aB,ae⟩;have aC:=zk au;clear au;go_wp2_with fail
 go_loopw[13](λi wr=>∃(k:Nat)(x y z:Int),k<=n'/\i=k/\x=CZ l (cl.take k) 1/\y=CZ l (cl.take k) (-1)/\z=CZ l (cl.take k) 0/\B3 wr al x y z/\Ae al wr)(λi _=>n'-(intOf i).toNat);case atStart=>exact⟨0,0,0,0,zx _,rfl,rfl,rfl,rfl,Aq.new _ _ _,(Ae.refl _).alloc _⟩
 case round=>
  obtain⟨k,U,V,Z,aJ,rfl,am,an,ao,E,J⟩:=hrel;have av:=G4 l (cl.take k) 1;have aw:=G4 l (cl.take k) (-1);have ax:=G4 l (cl.take k) 0;have aD:(cl.take k).length<=k:=aa4 _ _;rw[<-am]at av;rw[<-an]at aw;rw[<-ao]at ax;have ab:=zk am;have ac:=zk an;have ad:=zk ao;have aK:=E.cell 0;have aL:=E.cell 1;have aM:=E.cell 2;have f0:=E.frozen 0;have f1:=E.frozen 1;have f2:=E.frozen 2;have aE:0<=U/\U<=k:=Ad;have aF:0<=V/\V<=k:=Ad;have aG:0<=Z/\Z<=k:=Ad;obtain⟨aN,aO⟩:=aE;obtain⟨aP,aQ⟩:=aF;obtain⟨aR,aS⟩:=aG;clear am an ao av aw ax aD;by_cases ay:k<n'
  . obtain⟨aT,x,rfl,aH,aU,aV,aW⟩:=(ak.ext (((Ae.refl _).alloc _).trans (ae.trans J))).at_ ay;have az:=AM aH;have u:=zk az;clear az;have af:=zk (O8 l (cl.take k) x 1);have ag:=zk (O8 l (cl.take k) x (-1));have ah:=zk (O8 l (cl.take k) x 0);by_cases aa:Ak x=0;have aq:(Ak x==0)=true:=by simpa using aa
    have O:=zk aa;clear aa;go_wp2_with(go_at_call 141;refine(BF _ _).mono ?_;rintro e w'⟨rfl,rfl⟩)
    go_roundw;case rel=>exact⟨k+1,U,V,Z,Ad,by go_num,by rw[u.out,af.out,zo (by simp[O.out])];simpa using ab.out,by rw[u.out,ag.out,zo (by simp[O.out])];simpa using ac.out,by rw[u.out,ah.out,zo (by simp[O.out])];simpa using ad.out,E,J⟩
    case measure=>simp[intOf];omega
    . have aq:(Ak x==0)=false:=by simpa using aa
      have O:=zk aa;clear aa;have aq:=Acn l x;rcases(show BK l x=1\/BK l x=-1\/BK l x=0 by omega)with aj|aj|aj;all_goals
       have H:=zk aj;clear aj aq;go_wp2_with(first
        |(go_at_call 141;refine(BF _ _).mono ?_;rintro e w'⟨rfl,rfl⟩)
        |(go_at_call 316;refine(NM b _ l x p _ (J.cell aC.out) (aB.ext J) O.out).mono ?_;rintro e w'⟨rfl,rfl⟩;rw[H.out]))
       go_roundw;case measure=>simp[intOf];omega
      case rel=>exact⟨k+1,U+1,V,Z,Ad,by go_num,by rw[u.out,af.out,zq ⟨O.out,H.out⟩,<-ab.out],by rw[u.out,ag.out,zo (by simp[H.out])];simpa using ac.out,by rw[u.out,ah.out,zo (by simp[H.out])];simpa using ad.out,E.ad 0 _,J.setCell (zs _) _⟩
      case rel=>exact⟨k+1,U,V+1,Z,Ad,by go_num,by rw[u.out,af.out,zo (by simp[H.out])];simpa using ab.out,by rw[u.out,ag.out,zq ⟨O.out,H.out⟩,<-ac.out],by rw[u.out,ah.out,zo (by simp[H.out])];simpa using ad.out,E.ad 1 _,J.setCell (zs _) _⟩
      case rel=>exact⟨k+1,U,V,Z+1,Ad,by go_num,by rw[u.out,af.out,zo (by simp[H.out])];simpa using ab.out,by rw[u.out,ag.out,zo (by simp[H.out])];simpa using ac.out,by rw[u.out,ah.out,zq ⟨O.out,H.out⟩,<-ad.out],E.ad 2 _,J.setCell (zs _) _⟩
  . have T:B3 _ w 0 0 0:=((Aq.new w _ _).ext ae).ext J;have aX:=T.cell 0;have aY:=T.cell 1;have aZ:=T.cell 2;have a1:=T.frozen 0;have a5:=T.frozen 1;have a6:=T.frozen 2;have a7:w≠al.heap.size:=by have:=ae.size_le;rw[z3]at this;omega
    clear T;go_wp2;have t1:=ab.out;have t2:=ac.out;have t3:=ad.out;rw[CI ak.1 ay]at t1 t2 t3;subst t1 t2 t3;exact yw (v:=.agg #[(CZ l cl 1),(CZ l cl (-1)),(CZ l cl 0)]) (by simp[results,results411,go_sem, *]) rfl ⟨rfl,((((((Ae.refl _).alloc _).trans (ae.trans J)).setCell (zs _) _).setCell (zs _) _).setCell (zs _) _)⟩
def Ew(l c:An):Int:=if 0<CZ l c 1 then 1 else if 0<CZ l c 0 then 0 else-1
def XG(l c):-1<=Ew l c/\Ew l c<=1:=by grind[Ew]
def Po(A n c l A' n' c' cl w)(h:AB w A n l)(E:AB w A' n' cl)(H:n<=1000000000000):AC 396 #[.slice A n c,.slice A' n' c'] w λe w'=>e=.returned (Ew l cl)/\Ae w w':=by
 have T:=(G4 l cl 1).1;have U:=(G4 l cl (-1)).1;have V:=(G4 l cl 0).1;have u:Ew l cl=if 0<CZ l cl 1 then 1 else if 0<CZ l cl 0 then 0 else-1:=rfl
 have J:=zk u;clear u;by_cases Z:0<CZ l cl 1<;>by_cases aa:0<CZ l cl 0;all_goals
  go_enter func396,ntmps396;go_wp2_with(go_at_call 411;refine(N9 _ _ _ l _ _ _ cl _ h E H).mono ?_;rintro e ab⟨rfl,O⟩;skip)
  go_ret;exact⟨Bn (by rw[J.out];omega),by repeat(first|exact O|apply Ae.alloc|apply Ae.setCell)⟩
def JP(l:An)(x:Int):Bool:=decide (Ak x≠0)&&decide (BK l x=0)
theorem P3(l c):CZ l c 0=((c.filter (JP l)).length:Nat):=by rw[<-List.countP_eq_length_filter];rfl
def IL(l c:An):Int:=(c.filter (JP l)).headD 0
def Cy(l c:An):Bool:=decide (CZ l c 1=0)&&decide (CZ l c 0=1)
def BN(l c:An):Int:=if Cy l c then IL l c else 0
theorem Uu{l c}(u:CZ l c 1=0)(E:CZ l c 0=1):Cy l c=true:=by grind[Cy]
def Xz{l c}(u:¬CZ l c 1=0):Cy l c=false:=by grind[Cy]
def Xh{l c}(u:¬CZ l c 0=1):Cy l c=false:=by grind[Cy]
def UZ{l c}(u:CZ l c 0=1):c.filter (JP l)=[IL l c]:=by rw[P3]at u;grind[IL,JP,List.length_eq_one_iff]
def Xq{u p xs}{d:u}(h:xs.filter p≠[]):∃k:Nat,CM p xs=k/\k<xs.length/\xs[k]? =some ((xs.filter p).headD d):=by
 unfold CM;cases e:xs.findIdx? p with
 |none=> rw[yz]at e;simp_all
 |some k=> have e':=e;rw[yq]at e;obtain⟨E,H,J⟩:=e;grind[List.find?_eq_some_iff_getElem,List.head?_filter]
def AfJ(b k l x p q w)(U:w.cell? q=some (.func (.func 316) #[] #[.pointer (some p)]))(H:w.cell? p=some (.map (some b)))(J:Cb w b k (Cg l)):Calls prog 412 #[.int .i64 x,.pointer (some q)] w λe w'=>e=.returned (.bool (JP l x))/\w=w':=by
 have hb:=Ir x;obtain⟨V,Z⟩:=hb;have O:=zk H;clear H;by_cases u:Ak x=0;have E:=zk u;have T:¬0<Ak x:=by omega
 clear u;go_enter func412,ntmps412;go_wp2_with(go_at_call 141;refine(BF _ _).mono ?_;rintro e w'⟨rfl,rfl⟩)
 go_ret;exact⟨Bo (by grind[JP]),rfl⟩;have E:=zk u;have T:0<Ak x:=Ad;clear u;go_enter func412,ntmps412;go_wp2_with(first
  |(go_at_call 141;refine(BF _ _).mono ?_;rintro e w'⟨rfl,rfl⟩)
  |(go_at_call 316;refine(NM b k l x p _ O.out J E.out).mono ?_;rintro e w'⟨rfl,rfl⟩))
 go_ret;exact⟨Bo (by simp[JP,E.out];rw[acb];simp),rfl⟩
def AbT(A n c l A' n' c' cl w)(h:AB w A n l)(H:AB w A' n' cl)(O:n<=1000000000000):AC 397 #[.slice A n c,.slice A' n' c'] w λe w'=>e=.returned (.tuple #[(BN l cl),.bool (Cy l cl)])/\Ae w w':=by
 have am:=(G4 l cl 1).1;have an:=(G4 l cl (-1)).1;have ao:=(G4 l cl 0).1;by_cases aq:0<CZ l cl 1
 . have E:=zk (Xz (show¬CZ l cl 1=0 by omega));go_enter func397,ntmps397;go_wp2_with(go_at_call 411;refine(N9 _ _ _ l _ _ _ cl _ h H O).mono ?_;rintro e V⟨rfl,J⟩;skip)
   go_ret2;exact⟨UU (by rw[BN,E.out];rfl) E.symm,by repeat(first|exact J|apply Ae.alloc|apply Ae.setCell)⟩
 by_cases u:CZ l cl 0=1
 . have E:=zk (Uu (show CZ l cl 1=0 by omega) u);obtain⟨j,Z,ac,aa⟩:=Xq (p:=JP l) (xs:=cl) (d:=0) (by rw[UZ u];simp);have ad:j<n':=by rw[<-H.1];exact ac
   have ae:=zk aa;have T:(CZ l cl 0==1)=true:=by simpa using u
   have T:(CZ l cl 0 !=1)=false:=by simpa using u
   have af:=zk Z;clear Z aa u;go_enter func397,ntmps397;go_wp2_with(go_at_call 411;refine(N9 _ _ _ l _ _ _ cl _ h H O).mono ?_;rintro e V⟨rfl,J⟩;skip)
   refine(Pp _ _ _ l _ ?_ O).mono ?_
   . exact h.ext (by repeat(first|exact J|apply Ae.alloc|apply Ae.setCell))
   rintro e w2⟨p,b,rfl,ab,ag,ah⟩;have aj:=zk ab;clear ab;go_wp2_with fail
   have U:Ae w (w2.alloc (Obj.cells #[Value.func (Fn.func 316) #[] #[Value.pointer (some p)]] 154)):=by repeat(first|exact J|apply Ae.alloc|apply Ae.setCell|refine Ae.trans ?_ ah)
   obtain⟨au,x,rfl,ak,av,aw,ax⟩:=(H.ext U).at_ ad;skip;refine(Sh _ _ _ cl (JP l) _ _ _ (H.ext U) Vr ?_).mono ?_;intro y _;have al:=Aq.new w2 154 #[Value.func (Fn.func 316) #[] #[Value.pointer (some p)]];exact AfJ b _ l y p _ _ (al.cell 0) (((Ae.refl _).alloc _).cell aj) (ag.ext ((Ae.refl _).alloc _));rintro e w'⟨rfl,rfl⟩;rw[af.out];go_wp2;go_ret2;refine⟨UU ?_ E.symm,U⟩;rw[BN,E.out,zq rfl,IL];have:=ae.out;rw[ak.out]at this;exact xg this
 have E:=zk (Xh u);have T:(CZ l cl 0==1)=false:=by simpa using u
 have T:(CZ l cl 0 !=1)=true:=by simpa using u
 clear u;go_enter func397,ntmps397;go_wp2_with(go_at_call 411;refine(N9 _ _ _ l _ _ _ cl _ h H O).mono ?_;rintro e V⟨rfl,J⟩;skip)
 go_ret2;exact⟨UU (by rw[BN,E.out];rfl) E.symm,by repeat(first|exact J|apply Ae.alloc|apply Ae.setCell)⟩
end
section
open Go.Maps
def RP{x v}(h:AV x v=0):x≠0/\-100000<=x/\x<=100000/\Ak x≠0/\(Ak x=x\/Ak x=-x):=by grind[AV,Ak]
def AiW{x y}(u:Ak x≠0):Ak y=Ak x↔(y=x\/y=-x):=by grind[Ak]
def AB.take{w A n xs}(h:AB w A n xs){k}(E:k<=n):AB w A k (xs.take k):=by refine⟨by rw[ya,h.1];omega,by have:=h.2.1;omega,λx u=>h.2.2.1 x (xh u),λH=>?_⟩;obtain⟨J,e,O⟩:=h.2.2.2 Ad;grind
def Jc{xs x}:Bd xs x=true↔x∈xs:=by rw[Bd,y7];simp_all
def J9(f:Nat->Aw)(z:Aw)(n k:Nat):Ck:=(Array.range n).map λi=>if i<k then f i else z
def Ym(f z n):J9 f z n 0=madeCells #[z] n:=by simp[J9,madeCells,adv]
def Mt(f z n k j)(h:j<n):(J9 f z n k)[j]? =some (if j<k then f j else z):=by grind[J9]
def Acl(f z n k)(h:k<n):(J9 f z n k).setIfInBounds k (f k)=J9 f z n (k+1):=by apply adx;intro j;by_cases u:j<n;rw[Mt f z n (k+1) j u,abp];by_cases E:k=j;grind[J9];rw[zo E,Mt f z n k j u];by_cases H:j<k<;>by_cases J:j<k+1<;>simp[H,J]<;>omega;grind[J9]
def AcO:(prog.info? 4).map (λi=>(i.zero,i.size,i.bytes))=some (some (.bool false),1,1):=by kernel_rfl
def AgE:(prog.info? 3).map (λi=>(i.zero,i.size,i.bytes))=some (some (.int .i64 0),1,8):=by kernel_rfl
def ES(l:An)(m:Nat):List Bool:=(List.range m).map λ(i:Nat)=>BK l ((i:Int)+1)==1
def JE(l:An)(v:Int):List Bool:=if v<0\/100000<v then[]else ES l v.toNat
def IM(l m):(ES l m).length=m:=by simp[ES]
def PF{k:Nat}(h:k<100000):Ak ((k:Int)+1)≠0:=by grind[Ak]
def AgC(A n c l v w)(h:AB w A n l)(ad:n<=1000000000000):Calls prog 161 #[.slice A n c,.int .i64 v] w (AdU (JE l v) w):=by
 by_cases u:v<0\/100000<v
 . have J:Hid (JE l v=[]):=by unfold Hid;rw[JE,zq u]
   rcases u with u|u;all_goals go_enter func161,ntmps161;go_wp2
   all_goals first
     |(exfalso;omega)
     |(go_ret;exact⟨none,0,0,rfl,by rw[J.out];exact Bw.nil w,Ae.refl w⟩)
 obtain⟨m,rfl⟩:=y1 (show 0<=v by omega);have J:Hid (JE l m=ES l m):=by unfold Hid;rw[JE,zo u,Int.toNat_natCast]
 have al:¬(m:Int)<0:=Ad;have am:¬100000<(m:Int):=Ad;have an:m<=100000:=Ad;clear u;obtain⟨ae,hi,O,T,U⟩:=info_parts AcO;have af:=λW=>Ci (P:=prog) 38 4 ae _ underlying38 hi O .i64 .i64 m m (zs _) (by rw[U];omega) Ad W;rw[T,abc,show(Value.bool false).cells=#[Value.bool false]from rfl]at af;have ao:=zk hi;have aq:=zk O;have au:=zk T;have av:=zk U;clear hi O T U;go_enter func161,ntmps161;go_wp2_with(go_at_call 256;refine(Pp _ _ _ l _ h ad).mono ?_;rintro e V⟨p,b,rfl,ab,ag,ah⟩;have aj:=zk ab;clear ab)
 go_loopw[20](λi wr=>∃k,k<=m/\i=k/\Aq wr V 4 (J9 (λj=>.bool (BK l ((j:Int)+1)==1)) false m k)/\Ae V wr)(λi _=>m-(intOf i).toNat);case atStart=> refine⟨0,zx _,rfl,?_,(Ae.refl _).alloc _⟩;rw[Ym];exact Aq.new V 4 (madeCells #[Value.bool false] m)
 case round=>
  obtain⟨k,aw,rfl,E,H⟩:=hrel;skip;by_cases ac:k<m;have ak:=(E.cell k).trans (Mt _ _ m k k ac);have ax:=E.frozen k;simp only[Nat.lt_irrefl,if_false]at ak;go_wp2_with(go_at_call 316;refine(NM b _ l _ p _ (H.cell aj.out) (ag.ext H) (PF Ad)).mono ?_;rintro e w'⟨rfl,rfl⟩)
  go_roundw;case rel=> refine⟨k+1,Ad,by go_num,?_,H.setCell (zs _) _⟩;have:=E.ad k (.bool (BK l ((k:Int)+1)==1));rw[Acl (λj=>.bool (BK l ((j:Int)+1)==1)) _ m k ac]at this;exact this
  case measure=>simp[intOf];omega
  go_wp2;go_ret;obtain rfl:k=m:=Ad;refine⟨_,_,_,rfl,?_,ah.trans H⟩;rw[J.out];refine E.bools (IM l k) Ad λj x Z=>?_;have aa:j<k:=by have:=(zl.1 Z).1;rwa[IM]at this
  rw[Mt _ _ _ _ _ aa,zq aa];simp[ES,aa]at Z;simp[Z]
def Ku(m:List Bool)(v:Int):Bool:=decide (v<=(m.length:Int))&&m.getD (v-1).toNat false
def Ch(m:List Bool)(x:Int):Bool:=decide (Ak x≠0)&&(Ku m (Ak x)==FI x)
def CF(c:An)(m:List Bool):Bool:=c.any (Ch m)
def Pm{l c v}(h:CZ l c v=0):∀x∈c,Ak x≠0->BK l x≠v:=by grind[CZ,Ak,BK,List.countP_eq_zero]
def Vq{l x}(u:Ak x≠0)(h:BK l x=0):Bd l x=false/\Bd l (-x)=false:=by rw[BK,zo u]at h;cases E:Bd l x<;>cases H:Bd l (-x)<;>simp[E,H]at h⊢
def Ju(l u x):Bd (l++[u]) x=(Bd l x||(u==x)):=by simp[Bd]
def PP{l c}(J:CZ l c 0=1):Ak (IL l c)≠0/\BK l (IL l c)=0/\IL l c∈c/\∀x∈c,Ak x≠0->BK l x=0->x=IL l c:=by
 have E:=UZ J;have H:IL l c∈c.filter (JP l):=by rw[E];simp_all
 rw[ye]at H;obtain⟨O,u⟩:=H;simp only[JP,z4,z8]at u;refine⟨u.1,u.2,O,λx T U V=>?_⟩;have:x∈c.filter (JP l):=by rw[ye];grind[JP]
 rw[E]at this;simp_all
end
section
open Go.Maps
def Fu(c:An)(x:Int):Bool:=decide (Ak x≠0)&&Bd c x
def Jj(c:An)(x:Int):Bool:=Fu c x&&Fu c (IJ x)
def EG(c:An):Bool:=c.any (Jj c)
def XS(c:An):An:=(c.filter λx=>decide (Ak x≠0)).map λx=>-x
def E9(xs:An):An:=xs.filter λx=>decide (Ak x≠0)
def Qk(xs x):E9 (xs++[x])=if Ak x≠0 then E9 xs++[x]else E9 xs:=by unfold E9;rw[y5];by_cases h:Ak x=0<;>simp[h]
def Sa(xs):(E9 xs).length<=xs.length:=yl _ _
def UI(xs x):decide (0<Cg (E9 xs) x)=Fu xs x:=by rw[OY,Fu,Bd,Bd,E9,List.any_filter];grind
def RU{xs x}(h:Fu xs x=true):-100000<=x/\x<=100000/\IJ x=-x:=by
 have H:Ak x≠0:=by unfold Fu at h;simp_all
 obtain⟨_,u,E⟩:=FB H;exact⟨u,E,by rw[IJ,zq ⟨u,E⟩]⟩
def AgJ(xs:An)(w:Aj)(e:Bz)(w':Aj):Prop:=∃b,e=.returned (.map (some b))/\Cb w' b xs.length (Cg (E9 xs))/\Ae w w'
def Ah3(A n c xs w)(h:AB w A n xs)(al:n<=1000000000):AC 211 #[.slice A n c] w (AgJ xs w):=by
 have am:=λ(n:Int)(W:Aj)=>F4 (P:=prog) 174 3 3 .i64 n underlying174 W;go_enter func211,ntmps211;go_wp2;go_loopw[11](λi wr=>∃(k:Nat)(u:An),u=E9 (xs.take k)/\k<=n/\i=k/\Cb wr w k (Cg u)/\Ae w wr)(λi _=>n-(intOf i).toNat);case atStart=>exact⟨0,[],rfl,zx _,rfl,by rw[OV];exact Cb.made w,(Ae.refl _).alloc _⟩
 case round=>
  obtain⟨k,u,O,an,rfl,E,H⟩:=hrel;have ao:u.length<=k:=by rw[O];have:=Sa (xs.take k);have:=aa4 k xs;omega
  have T:=zk O;clear O;by_cases Z:k<n
  . obtain⟨aq,x,rfl,af,au,aa,ab⟩:=(h.ext H).at_ Z;have ac:=zk (AM af);have ad:=zk (Qk (xs.take k) x);obtain⟨av,aw⟩:=Ir x;obtain⟨ax,ay⟩:=LR u x;by_cases J:Ak x=0
    . have ag:¬0<Ak x:=Ad;have U:=zk J;clear J;go_wp2_with(go_at_call 141;refine(BF _ _).mono ?_;rintro e w'⟨rfl,rfl⟩)
      go_roundw;case rel=>exact⟨k+1,u,by rw[ac.out,ad.out,zo (by simp[U.out])];exact T,Ad,by go_num,E.mono Ad,H⟩
      case measure=>simp[intOf];omega
    . have ag:0<Ak x:=Ad;have U:=zk J;clear J;go_wp2_with(first
       |(go_at_call 141;refine(BF _ _).mono ?_;rintro e w'⟨rfl,rfl⟩)
       |(at_lookup;refine H6 _ rfl _ _ rfl _ _ _ rfl E _ rfl ⟨aa,ab⟩ ?_)
       |(at_mapUpdate;refine Ed _ rfl _ _ _ rfl _ _ _ rfl E Ad _ _ rfl rfl ⟨aa,ab⟩ Ad ?_;intro w2 V ae;rw[KU]at V;have ah:=V;have aj:=ae;clear V ae))
      go_roundw;case rel=>exact⟨k+1,u++[x],by rw[ac.out,ad.out,zq U.out,T.out],Ad,by go_num,ah,H.grown aj (λj ak=>by cases ak;exact zs _)⟩
      case measure=>simp[intOf];omega
  . go_wp2;go_ret;refine⟨_,rfl,?_,H⟩;have e:=T.out;rw[CI h.1 Z]at e;rw[<-e];exact E.mono (by have:=h.1;omega)
theorem AgK(b k xs x q w)(J:-9223372036854775808<=x)(O:x<=9223372036854775807)(Z:w.cell? q=some (.map (some b)))(E:Cb w b k (Cg (E9 xs))):Calls prog 213 #[.int .i64 x,.pointer (some q)] w λe w'=>e=.returned (.bool (Jj xs x))/\w=w':=by
 skip;have T:=zk (UI xs x);have aa:=zk (UI xs (-x));cases u:Fu xs x with
 |false=>
  have U:decide (0<Cg (E9 xs) x)=false:=by rw[T.out];exact u
  have H:Hid (Jj xs x=false):=by grind[Hid,Jj]
  clear u;go_enter func213,ntmps213;go_wp2_with(at_lookup;refine H6 _ rfl _ _ rfl _ _ _ rfl E _ rfl ⟨J,O⟩ ?_)
  go_ret;exact⟨Bo H.symm,rfl⟩
 |true=>
  obtain⟨ab,ac,V⟩:=RU u;have U:decide (0<Cg (E9 xs) x)=true:=by rw[T.out];exact u
  have H:Hid (Jj xs x=decide (0<Cg (E9 xs) (-x))):=by grind[Hid,Jj]
  clear u V;have ad:=E.run x ⟨J,O⟩;have ae:=E.run (-x) (by omega);go_enter func213,ntmps213;go_wp2;go_ret;exact⟨Bo H.symm,rfl⟩
def PX(A n c xs w)(h:AB w A n xs)(H:n<=1000000000):AC 136 #[.slice A n c] w λe w'=>e=.returned (.bool (EG xs))/\Ae w w':=by
 go_enter func136,ntmps136;go_wp2_with fail
 refine(Ah3 _ _ _ xs _ h H).mono ?_;rintro e u⟨b,rfl,J,O⟩;go_wp2_with fail
 have E:=O.alloc (Obj.cells #[.map (some b)] 174);have U:=J.ext ((Ae.refl u).alloc (Obj.cells #[.map (some b)] 174));have V:=(Aq.new u 174 #[.map (some b)]).cell 0;refine(Hk _ _ _ xs (Jj xs) _ _ _ (h.ext E) V6 ?_).mono ?_;intro x T;obtain⟨Z,aa⟩:=h.2.2.1 x T;grind[AgK];rintro e w'⟨rfl,rfl⟩;go_wp2;go_ret;exact⟨rfl,E⟩
end
section
open Go.Maps
def EB(l c:An):Bool:=Ew l c==-1
def TF{u p}{xs:List u}:CM p xs<0↔xs.findIdx? p=none:=by grind[CM]
def Bk(x):Ak (-x)=Ak x:=by grind[Ak]
def Abd{l c}(h:EB l c=true):∀x∈c,Ak x≠0->Bd l x=false/\Bd l (-x)=true:=by
 intro x E u;have O:Ew l c=-1:=by grind[EB]
 have H:CZ l c 1=0:=by have:=(G4 l c 1).1;grind[Ew]
 have J:CZ l c 0=0:=by have:=(G4 l c 0).1;grind[Ew]
 have v1:=Pm H x E u;have v0:=Pm J x E u;unfold BK at v1 v0;rw[zo u]at v1 v0;simp_all
def AfH{l c}(h:∀x∈c,Ak x≠0->Bd l x=false/\Bd l (-x)=true):EB l c=true:=by
 have key:∀v,v≠-1->CZ l c v=0:=by intro v U;unfold CZ;rw[adt.2];rfl;intro x E u;simp only[z4,z8]at u;obtain⟨H,J⟩:=h x E u.1;have:=u.2;rw[BK,zo u.1,H,J]at this;simp_all
 have O:=key 1 Ax;have T:=key 0 Ax;rw[EB,Ew,O,T];rfl
theorem FY{l c}(h:Cy l c=true):BN l c∈c/\Ak (BN l c)≠0/\Bd l (BN l c)=false/\Bd l (-BN l c)=false/\∀x∈c,Ak x≠0->x≠BN l c->Bd l x=false/\Bd l (-x)=true:=by
 have H:BN l c=IL l c:=by rw[BN,h];rfl
 unfold Cy at h;simp only[z4,z8]at h;obtain⟨f1,f2,f3,f4⟩:=PP h.2;rw[H];obtain⟨J,O⟩:=Vq f1 f2;refine⟨f3,f1,J,O,λx E u T=>?_⟩;have v1:=Pm h.1 x E u;have v0:=λe=>T (f4 x E u e);unfold BK at v1 v0;rw[zo u]at v1 v0;grind
def M9{m x}(h:Ak x≠0):Ch m (-x)=!Ch m x:=by
 have u:FI (-x)=!FI x:=by grind[FB,FI,decide_eq_true,decide_eq_false]
 unfold Ch;rw[Bk,u,zt h];cases Ku m (Ak x)<;>cases FI x<;>rfl
theorem UE{m x}(h:Ch m x=true):Ak x≠0:=by unfold Ch at h;simp_all
def Rv(l:An)(m:List Bool):Prop:=∀x∈l,Ak x≠0->Ch m x=true
def Rv.not_neg{l m}(h:Rv l m){x}(u:Ak x≠0)(E:Bd l (-x)=true):Ch m x=false:=by
 have:-x∈l:=by grind[Bd]
 have:=h (-x) this (by rw[Bk];exact u);rw[M9 u]at this;simp_all
def RG{c m}(h:CF c m=true):∃x∈c,Ak x≠0/\Ch m x=true:=by rw[CF,y7]at h;grind[UE]
theorem Yw{l c m}(H:Rv l m)(J:CF c m=true)(O:Cy l c=true):Ch m (BN l c)=true:=by obtain⟨x,T,u,E⟩:=RG J;obtain⟨_,_,_,_,U⟩:=FY O;by_cases e:x=BN l c;rw[<-e];exact E;have:=H.not_neg u (U x T u e).2;rw[E]at this;simp_all
theorem Zl{l c m}(E:Rv l m)(H:CF c m=true):EB l c=false:=by
 cases J:EB l c with
 |false=>rfl
 |true=> obtain⟨x,O,u,T⟩:=RG H;have:=E.not_neg u (Abd J x O u).2;rw[T]at this;omega
def Good(l:An):Prop:=(∀x∈l,Ak x≠0)/\(l.map Ak).Nodup
theorem Jd{l x}:Bd l x=false↔x∉l:=by rw[<-Jc];simp
def Si{l:An}(h:(l.map Ak).Nodup){x y}(u:x∈l)(E:y∈l)(e:Ak x=Ak y):x=y:=by
 induction l with
 |nil=>cases u
 |cons a l H=> rw[xn,xx]at h;grind
def Good.neg{l}(h:Good l){x}(E:-x∈l):x∉l:=λu=>by have e:=Si h.2 u E (Bk x).symm;have:=h.1 x u;have:=(FB this).1;omega
def Good.nodup{l}(h:Good l):l.Nodup:=(x2.1 h.2).imp (λu e=>u (by rw[e]))
theorem Ki{x y}(u:Ak x≠0)(e:Ak y=Ak x):y=x\/y=-x:=by grind[Ak]
def Good.step{l c}(h:Good l)(E:Cy l c=true):Good (l++[BN l c]):=by obtain⟨_,H,J,O,_⟩:=FY E;refine⟨λx u=>?_,?_⟩;rcases zz.1 u with u|u;exact h.1 x u;simp_all;rw[yo,y2];refine⟨h.2,AG,?_⟩;intro a T b hb;rw[List.map_singleton,zy]at hb;grind[Ki,Jd]
def Il{a:An}:∀{b:An},a.Nodup->(∀x∈a,x∈b)->a.length<=b.length:=by
 induction a with
 |nil=>simp_all
 |cons x a J=> intro b h u;rw[xx]at h;have E:=u x (yx ..);have:=J (b:=b.erase x) h.2 (λy H=>(List.mem_erase_of_ne (λ(e:y=x)=>h.1 (by rw[<-e];exact H))).2 (u y (yj _ H)));rw[List.length_erase_of_mem E]at this;have:=adb E;rw[List.length_cons];omega
def Aer{c m}(h:CF c m=false):Rv (XS c) m:=by intro y u _;unfold XS at u;obtain⟨x,E,rfl⟩:=zw.1 u;rw[ye,z8]at E;rw[M9 E.2];rw[CF,xm]at h;simp_all
def Aay(A n c L p F q w)(h:Bf w A n L)(hF:Enters F) (U:∀A' n' c' xs,AB w A' n' xs->AC F #[.slice A' n' c',q] w λe w'=>e=.returned (.bool (p xs))/\w=w'):AC 318 #[.slice A n c,.func (.func F) #[] #[q]] w λe w'=>e=.returned (CM p L)/\w=w':=by
 have Z:=h.len;go_enter func318,ntmps318;go_wp2;go_loop[8](λi=>∃k,k<=n/\i=k/\(L.take k).findIdx? p=none)(λi=>n-(intOf i).toNat);case atStart=>grind
 case round=>
  obtain⟨k,aa,rfl,H⟩:=hrel;have u:=zk H;clear H;by_cases J:k<n
  . obtain⟨ab,xs,A',n',c',rfl,O,ac,V⟩:=h.at_ J;cases T:p xs;all_goals
     have E:=zk T;clear T;go_wp2_with fail
     rw[hF,x7];refine(U _ _ _ xs V).mono ?_;rintro e w'⟨rfl,rfl⟩;rw[E.out];go_wp2
    go_round;case rel=>exact⟨k+1,Ad,by go_num,DU u O E⟩
    grind[intOf];go_ret;exact⟨Bn (by rw[CM,Gq u O E]),rfl⟩
  go_wp2;go_ret;refine⟨Bn ?_,rfl⟩;have:=u.out;rw[CI h.1 J]at this;rw[CM,this]
end
def Db(L:AT)(m:List Bool):Int:=CM (λc=>!CF c m) L
def IX{L m}:Db L m<0↔∀c∈L,CF c m=true:=by grind[Db,CM,CF,List.findIdx?_eq_none_iff,List.findIdx?_eq_some_iff_getElem,List.getElem_mem]
def SH:Enters 371:=by intro args w;go_simp
def TQ:Enters 319:=by intro args w;go_simp
def AeT{x}(h:x<=100000):FI x=decide (0<x):=by unfold FI;rw[zt h,Bool.and_true]
theorem ZD(x q A n c m w)(af:w.cell? q=some (.slice A n c))(h:Bw w A n m):Calls prog 371 #[.int .i64 x,.pointer (some q)] w λe w'=>e=.returned (.bool (Ch m x))/\w=w':=by
 have ag:=h.len;have O:=h.1;have hb:=Ir x;obtain⟨j,H⟩:=y1 hb.1;have ah:j<=100000:=by omega
 have E:=zk H;by_cases T:j=0;subst T;have u:Hid (Ch m x=false):=by unfold Hid;rw[Ch,E.out];rfl
 clear H hb;go_enter func371,ntmps371;go_wp2_with(go_at_call 141;refine(BF _ _).mono ?_;rintro e w'⟨rfl,rfl⟩;rw[E.out])
 go_ret;exact⟨Bo u.symm,rfl⟩;obtain⟨_,_,Z⟩:=FB (l:=x) (by omega);obtain⟨i,rfl⟩:∃i,j=i+1:=⟨j-1,by omega⟩;clear T H hb;have aj:(0:Int)<((i+1:Nat):Int):=Ad;have u:Hid (Ch m x=((decide (i<n)&&m.getD i false)==decide (0<x))):=by
  unfold Hid;rw[Ch,Ku,E.out,O,AeT Z];have aa:decide (((i+1:Nat):Int)≠0)=true:=by rw[z8];omega
  have ab:decide (((i+1:Nat):Int)<=(n:Int))=decide (i<n):=by rw[decide_eq_decide];omega
  have ac:(((i+1:Nat):Int)-1).toNat=i:=Ad;rw[aa,ab,ac,abl]
 clear O;by_cases J:i<n;focus
  obtain⟨ak,y,rfl,ad,al⟩:=h.at_ J;have ae:(i:Int)<n:=Ad;have U:m.getD i false=y:=by rw[yc,ad.out];rfl
  rw[U,show decide (i<n)=true from by simp[J],abl]at u;clear U
 rotate_left;focus rw[show decide (i<n)=false from by simp[J],ac7]at u;have ae:¬((i:Int)<n):=Ad
 all_goals
  by_cases V:0<x;all_goals
   go_enter func371,ntmps371;go_wp2_with(go_at_call 141;refine(BF _ _).mono ?_;rintro e w'⟨rfl,rfl⟩;rw[E.out])
   go_ret;exact⟨Bo (by first|(rw[u.out];done)|(rw[u.out];simp[V];done)|(rw[u.out];simp[V];omega)),rfl⟩
def AdS(A n c w):AC 317 #[.slice A n c] w λe w'=>e=.returned (.func (.func 371) #[] #[.pointer w])/\w'=w.alloc (.cells #[.slice A n c] 38):=by go_enter func317,ntmps317;go_wp2;go_ret;simp_all
def Aeo(q p A n c m A' n' c' cl w)(E:w.cell? q=some (.func (.func 371) #[] #[.pointer (some p)]))(H:w.cell? p=some (.slice A n c))(h:Bw w A n m)(u:AB w A' n' cl):AC 319 #[.slice A' n' c',.pointer (some q)] w λe w'=>e=.returned (.bool (!CF cl m))/\w=w':=by
 go_enter func319,ntmps319;go_wp2_with fail
 refine(Hk _ _ _ cl (Ch m) _ _ _ u SH ?_).mono ?_;grind[ZD];rintro e w'⟨rfl,rfl⟩;go_wp2_with fail
 go_ret;exact⟨rfl,rfl⟩
def AeA(v A n c L A' n' c' m w)(h:Bf w A n L)(H:Bw w A' n' m):Calls prog 257 #[.agg #[.int .i64 v,.slice A n c],.slice A' n' c'] w λe w'=>e=.returned (.int .i64 (Db L m))/\Ae w w':=by
 go_enter func257,ntmps257;go_wp2_with fail
 refine(AdS _ _ _ _).mono ?_;rintro e O⟨rfl,rfl⟩;go_wp2_with fail
 have u:=BD ((w.alloc (Obj.cells #[.int .i64 v,.slice A n c] 34)).alloc (Obj.cells #[.slice A' n' c'] 38)) (.func (.func 371) #[] #[.pointer (some ⟨w+1,0,none⟩)]) 211;have E:=((Ae.refl _).alloc (Obj.cells #[.func (.func 371) #[] #[.pointer (some ⟨w+1,0,none⟩)]] 211)).cell (BD (w.alloc (Obj.cells #[v,.slice A n c] 34)) (.slice A' n' c') 38);simp only[z3]at u E;refine(Aay _ _ _ L (λcl=>!CF cl m) _ _ _ (h.ext (by grind)) TQ ?_).mono ?_;intro T U V xs J;exact Aeo _ _ _ _ _ m _ _ _ xs _ u E (H.ext (by grind)) J;rintro e w'⟨rfl,rfl⟩;go_wp2_with fail
 go_ret;exact⟨rfl,by grind⟩
def Kq(v:Int)(L:AT)(m:List Bool):Bool:=decide ((m.length:Int)=v)&&decide (Db L m<0)
def Aef(v A n c L A' n' c' m w)(h:Bf w A n L)(J:Bw w A' n' m):Calls prog 163 #[.agg #[.int .i64 v,.slice A n c],.slice A' n' c'] w λe w'=>e=.returned (.bool (Kq v L m))/\Ae w w':=by
 have u:=J.1;by_cases E:(n':Int)=v;have H:Hid (Kq v L m=decide (Db L m<0)):=by unfold Hid;rw[Kq,u,zt E,abl]
 subst E;clear u;go_enter func163,ntmps163;go_wp2_with fail
 refine(AeA _ _ _ _ L _ _ _ m _ (h.ext (by grind[Ae.trans'])) (J.ext (by grind[Ae.trans']))).mono ?_;rintro e O⟨rfl,T⟩;go_wp2_with fail
 go_ret;exact⟨Bo H.symm,by grind[Ae.trans']⟩;have H:Hid (Kq v L m=false):=by unfold Hid;rw[Kq,u,zn E,ac7]
 have hb:((n':Int)==v)=false:=by simp_all
 clear u E;go_enter func163,ntmps163;go_wp2_with fail
 go_ret;exact⟨Bo H.symm,by grind[Ae.trans']⟩
section
open Go.Maps
def IN(xs:An):An:=xs.foldl (λa x=>if Bd a x then a else a++[x]) []
def Ll(xs x):IN (xs++[x])=if Bd (IN xs) x then IN xs else IN xs++[x]:=by grind[IN]
def D0{P:An->Prop}(E:P [])(H:∀xs x,P xs->P (xs++[x]))(xs):P xs:=by
 have:∀n,∀xs,xs.length=n->P xs:=by
  intro n;induction n with
  |zero=>simp_all
  |succ n J=>
   intro xs h;have u:xs≠[]:=λe=>by rw[e]at h;simp_all
   rw[<-acl u];simp_all
 simp_all
def TK(xs x):Bd (IN xs) x=Bd xs x:=by
 refine D0 (P:=λxs=>Bd (IN xs) x=Bd xs x) rfl (λxs y u=>?_) xs;rw[Ll,Ju];cases h:Bd (IN xs) y with
 |true=> rw[zq rfl,u];grind
 |false=>rw[zo AG,Ju,u]
def Ajg(xs):(IN xs).length<=xs.length:=by refine D0 (P:=λxs=>(IN xs).length<=xs.length) (zs _) (λxs y u=>?_) xs;rw[Ll];grind
def Ii(w:Aj)(b k:Nat)(xs:An):Prop:=∃D:DataW Unit,w.ownsMap prog 3 (plainElem prog 3) b k D/\Tidy D/\Maps.size D=(IN xs).length/\∀x,-9223372036854775808<=x->x<=9223372036854775807->Maps.has D (.int .i64 x)=Bd xs x/\D.atKey (.int .i64 x) (.lit (.int .i64 0))=.lit (.int .i64 (Cg xs x))
section
variable{w w'}{b k}{xs}
theorem Ii.made(w:Aj):Ii (w.alloc (.map #[] 0)) w 0 []:=⟨.map [],aca _ _ _ _,⟨[],rfl,List.Pairwise.nil⟩,rfl,λ_ _ _=>⟨rfl,rfl⟩⟩
theorem Ii.mono{u}(h:Ii w b k xs)(E:k<=u):Ii w b u xs:=let⟨D,H,J⟩:=h;⟨D,H.mono E,J⟩
theorem Ii.cZ(h:Ii w b k xs):Cb w b k (Cg xs):=by obtain⟨D,u,⟨E,rfl,_⟩,_,H⟩:=h;exact⟨_,u,⟨E,rfl⟩,λx a c=>(H x a c).2⟩
theorem Ii.set(h:Ii w b k xs)(ag:k<=1000000000000000000)(x)(u:-9223372036854775808<=x/\x<=9223372036854775807)(O:-9223372036854775808<=Cg xs x+1/\Cg xs x+1<=Bh):∃w',(Instr.mapUpdate 174 (.map (some b)) (.int .i64 x) (.int .i64 (Cg xs x+1))).run prog w=.ok () w'/\Ii w' b (k+1) (xs++[x])/\w.grownBy w' (some b):=by
 obtain⟨D,T,E,U,H⟩:=h;obtain⟨w',hrun,V,Z⟩:=T.update DZ underlying174 (by unfold maxLen;omega) (keyOf_int_mk underlying3 (C2 u)) (plainElem_int underlying3 (C2 O));have J:IsMap D:=by obtain⟨aa,rfl,_⟩:=E;exact⟨aa,rfl⟩
 have ab:=KU xs x;refine⟨w',hrun,⟨_,V,Tidy.put E (by trivial) _,?_,λz ac ad=>?_⟩,Z⟩;rw[size_put E,(H x u.1 u.2).1,U,Ll,TK];cases Bd xs x<;>simp;rw[<-ab];dsimp only;by_cases e:z=x;subst e;rw[zq rfl,atKey_put_same J (by trivial),has_put_same J (by trivial),Ju];simp;have e':(x==z)=false:=by rw[yv];exactλh=>e h.symm
 rw[zo e,atKey_put_other (λh=>e (by injection h)),has_put_other (λh=>e (by injection h)),Ju];obtain⟨ae,af⟩:=H z ac ad;refine⟨?_,af⟩;rw[ae];cases Bd xs z<;>simp[e']<;>first|rfl|(intro h;exact e (by first|exact h|exact h.symm))|skip
end
def Vg(w){zf rest o a Q}(u:o.guard=none)(m x v)(E:o.op=Op.mapUpdate 174 m x v) (b k xs)(H:a.eval m=.map (some b))(J:Ii w b k xs)(O:k<=1000000000000000000)(y)(T:a.eval x=.int .i64 y)(U:a.eval v=.int .i64 (Cg xs y+1)) (V:-9223372036854775808<=y/\y<=9223372036854775807)(Z:-9223372036854775808<=Cg xs y+1/\Cg xs y+1<=9223372036854775807) (aa:∀w',Ii w' b (k+1) (xs++[y])->w.grownBy w' (some b)->wpList prog zf Q rest (a.put o.dst undef) w'):wpList prog zf Q (o::rest) a w:=by refine x5 u λae ab=>?_;obtain⟨w',hrun,ac,ad⟩:=J.set O y V Z;unfold Oper.wp;simp[execOp,E,H,T,U,hrun,Result.andThen];exact ab _ _ (aa w' ac ad)
def Ac2(xs:An)(w:Aj)(e:Bz)(w':Aj):Prop:=∃b,e=.returned (.map (some b))/\Ii w' b xs.length (E9 xs)/\Ae w w'
def AgT(A n c xs w)(h:AB w A n xs)(aj:n<=1000000000):AC 211 #[.slice A n c] w (Ac2 xs w):=by
 have ak:=λ(n:Int)(W:Aj)=>F4 (P:=prog) 174 3 3 .i64 n underlying174 W;go_enter func211,ntmps211;go_wp2;go_loopw[11](λi wr=>∃(k:Nat)(u:An),u=E9 (xs.take k)/\k<=n/\i=k/\Ii wr w k u/\Ae w wr)(λi _=>n-(intOf i).toNat);case atStart=>exact⟨0,[],rfl,zx _,rfl,Ii.made w,(Ae.refl _).alloc _⟩
 case round=>
  obtain⟨k,u,O,al,rfl,E,H⟩:=hrel;have am:u.length<=k:=by rw[O];have:=Sa (xs.take k);have:=aa4 k xs;omega
  have T:=zk O;clear O;by_cases V:k<n
  . obtain⟨an,x,rfl,ad,ao,Z,aa⟩:=(h.ext H).at_ V;have ab:=zk (AM ad);have ac:=zk (Qk (xs.take k) x);obtain⟨aq,au⟩:=Ir x;obtain⟨av,aw⟩:=LR u x;by_cases J:Ak x=0
    . have ae:¬0<Ak x:=Ad;have U:=zk J;clear J;go_wp2_with(go_at_call 141;refine(BF _ _).mono ?_;rintro e w'⟨rfl,rfl⟩)
      go_roundw;case rel=>exact⟨k+1,u,by rw[ab.out,ac.out,zo (by simp[U.out])];exact T,Ad,by go_num,E.mono Ad,H⟩
      case measure=>simp[intOf];omega
    . have ae:0<Ak x:=Ad;have U:=zk J;clear J;go_wp2_with(first
       |(go_at_call 141;refine(BF _ _).mono ?_;rintro e w'⟨rfl,rfl⟩)
       |(at_lookup;refine H6 _ rfl _ _ rfl _ _ _ rfl E.cZ _ rfl ⟨Z,aa⟩ ?_)
       |(at_mapUpdate;refine Vg _ rfl _ _ _ rfl _ _ _ rfl E Ad _ rfl rfl ⟨Z,aa⟩ Ad ?_;intro w2 af ag;skip))
      go_roundw;case rel=>exact⟨k+1,u++[x],by rw[ab.out,ac.out,zq U.out,T.out],Ad,by go_num,af,H.grown ag (λj ah=>by cases ah;exact zs _)⟩
      case measure=>simp[intOf];omega
  . go_wp2;go_ret;refine⟨_,rfl,?_,H⟩;have e:=T.out;rw[CI h.1 V]at e;rw[<-e];exact E.mono (by have:=h.1;omega)
def M8(c:An)(v:Int):Prop:=(0<=v/\v<=100000)/\c.length<=1000/\(∀x∈c,AV x v=0)/\c.Nodup
def AbM(xs):xs.Nodup->(IN xs).length=xs.length:=by refine D0 (P:=λxs=>xs.Nodup->(IN xs).length=xs.length) (λ_=>rfl) (λxs x E u=>?_) xs;rw[y2]at u;have H:Bd xs x=false:=Bool.eq_false_iff.2 λe=>u.2.2 x (Jc.1 e) x AG rfl;rw[Ll,TK,H,zo AG,zu,zu,E u.1]
def Ag1{c v}(h:M8 c v):(IN (E9 c)).length=c.length:=by
 have u:E9 c=c:=by unfold E9;rw[x9];intro x E;have:=(RP (h.2.2.1 x E)).2.2.2.1;simpa using this
 rw[u,AbM c h.2.2.2]
def Qs{c v}(h:M8 c v):(0<=v/\v<=100000)/\c.length<=1000/\∀x∈c,AV x v=0:=⟨h.1,h.2.1,h.2.2.1⟩
def JM(A n c cl v w)(h:AB w A n cl)(u:M8 cl v):AC 135 #[.slice A n c,v] w λe w'=>e=.returned ()/\Ae w w':=by
 have aa:=h.len;have ab:=u.1.1;have ac:=u.1.2;have ad:¬1000<n:=by have:=h.1;have:=u.2.1;omega
 skip;go_enter func135,ntmps135;go_wp2_with fail
 go_loop[21](λi=>∃k,k<=n/\i=k)(λi=>n-(intOf i).toNat);case atStart=>exact⟨0,zx _,rfl⟩
 case round=>
  obtain⟨k,ae,rfl⟩:=hrel;by_cases J:k<n;obtain⟨af,x,rfl,O,ag,ah,aj⟩:=h.at_ J;have T:=zk (u.2.2.1 x (zm O));go_wp2_with(go_at_call 210;refine(Hg _ _ _).mono ?_;rintro e w'⟨rfl,rfl⟩;rw[T.out])
  go_round;case rel=>exact⟨k+1,Ad,by go_num⟩
  case measure=>simp[intOf];omega
  go_wp2_with fail
  refine(AgT _ _ _ cl _ h Ad).mono ?_;rintro e ak⟨b,rfl,U,V⟩;obtain⟨D,E,_,H,_⟩:=U;have Z:=E.len underlying174;rw[H,Ag1 u,h.1]at Z;clear E H;go_wp2_with fail
  go_ret;exact⟨rfl,V⟩
end
def Ov(v:Int)(L:AT):Prop:=(0<=v/\v<=100000)/\L.length<=1000000/\∀c∈L,M8 c v/\EG c=false
def PQ{v L}(h:Ov v L):(0<=v/\v<=100000)/\∀c∈L,M8 c v/\EG c=false:=⟨h.1,h.2.2⟩
def AiK{u:Type}{L:List u}{k x}(h:L[k]? =some x):L.drop k=x::L.drop (k+1):=by obtain⟨E,e⟩:=zl.1 h;rw[y8 E,e]
def Mq(v A n c L w)(h:Bf w A n L)(u:Ov v L):AC 76 #[.agg #[v,.slice A n c]] w λe w'=>e=.returned (.tuple #[n,()])/\Ae w w':=by
 have ac:=h.len;have ad:=u.1.1;have ae:=u.1.2;have af:¬1000000<n:=by have:=h.1;have:=u.2.1;omega
 skip;go_enter func76,ntmps76;go_wp2_with fail
 go_loopw[24](λi wr=>∃k,k<=n/\i=k/\Ae (w.alloc (Obj.cells #[v,.slice A n c] 34)) wr)(λi _=>n-(intOf i).toNat);case atStart=>exact⟨0,zx _,rfl,Ae.refl _⟩
 case round=>
  obtain⟨k,ag,rfl,E⟩:=hrel;have O:=((Ae.refl w).alloc (Obj.cells #[v,.slice A n c] 34)).trans E;have ah:=E.cell ((Aq.new w 34 #[v,.slice A n c]).cell 0);have aj:=E.cell ((Aq.new w 34 #[v,.slice A n c]).cell 1);by_cases V:k<n;obtain⟨ak,xs,al,Z,am,rfl,aa,an,H⟩:=(h.ext O).at_ V;have J:=zk (u.2.2 xs (zm aa));have ao:Z<=1000:=by have:=H.1;have:=J.1.2.1;omega
  go_wp2_with fail
  refine(JM _ _ _ xs v _ H J.1).mono ?_;rintro e aq⟨rfl,T⟩;go_wp2_with fail
  refine(PX _ _ _ xs _ (H.ext T) Ad).mono ?_;rintro e w2⟨rfl,U⟩;rw[J.2];have ab:=(E.trans T).trans U;clear U;go_wp2_with fail
  go_roundw;case rel=>exact⟨k+1,Ad,by go_num,ab⟩
  case measure=>simp[intOf];omega
  obtain rfl:k=n:=Ad;go_wp2_with fail
  go_ret2;exact⟨rfl,O⟩
structure Cf where
 pos:Int
 id:Int
 lits:An
 cp:Bool
 live:Bool
structure Fb where
 rows:List Cf
 size:Int
def Hr(r:Cf):Int:=if r.live then(if r.cp then 1 else 0)else 2
def FK(r:Cf):An:=r.id::(r.lits.length:Int)::Hr r::r.lits
def Be(zc:List Cf):An:=zc.flatMap FK
def BR(x:Int)(r:Cf):Bool:=r.pos==x&&r.live
def Bb(zc:List Cf)(x:Int):Int:=match zc.find? (BR x)with|some r=>r.id|none=>0
def KE(id:Int)(zd:An):Prop:=(1<=id/\id<=10000000)/\M8 zd 100000
def Du(S:Fb)(id:Int)(zd:An)(IY:Bool):Fb:=⟨S.rows++[⟨S.size,id,zd,IY,true⟩],S.size+3+zd.length⟩
def Nq(zc:List Cf)(x:Int)(f:Cf->Cf):List Cf:=match zc.findIdx? (BR x)with
 |some k=>(match zc[k]? with|some r=>zc.set k (f r)|none=>zc)
 |none=>zc
def Hm(S:Fb)(x:Int):Int:=match S.rows.find? (BR x)with|none=>20|some _=>0
def Ds(S:Fb)(x:Int):Fb:=if Hm S x=0 then⟨Nq S.rows x λr=>{r with live:=false},S.size⟩else S
def Fe(zc:List Cf):An:=(zc.filter λr=>r.live).map Cf.pos
structure CG(S:Fb):Prop where
 pos:∀(i)(r:Cf),S.rows[i]? =some r->r.pos=((Be (S.rows.take i)).length:Nat)
 size:S.size=((Be S.rows).length:Nat)
 ok:∀r∈S.rows,(1<=r.id/\r.id<=10000000)/\r.lits.length<=1000/\∀x∈r.lits,-100000<=x/\x<=100000
theorem G9(r):(FK r).length=r.lits.length+3:=by simp[FK]
def Mj(zc r):Be (zc++[r])=Be zc++FK r:=by grind[Be]
def Sz(a b):Be (a++b)=Be a++Be b:=by unfold Be;rw[y4]
def JV{zc i r}(h:zc[i]? =some r):Be zc=Be (zc.take i)++(FK r++Be (zc.drop (i+1))):=by
 have e:zc=zc.take i++([r]++zc.drop (i+1)):=by have u:=(xt (i+1) zc).symm;rw[AM h,yy]at u;exact u
 have E:=aby Be e;rw[Sz,Sz]at E;grind[Be,FK]
def Wq{zc i r}(h:zc[i]? =some r){k}(u:k<(FK r).length):(Be zc)[(Be (zc.take i)).length+k]? =(FK r)[k]?:=by rw[JV h,yi Ad,aaq,yh u]
def LH{zc i r}(h:zc[i]? =some r):(Be (zc.take i)).length+(FK r).length<=(Be zc).length:=by rw[JV h,zu,zu];omega
def AcV{zc i r u}(h:zc[i]? =some r){k y}(E:k<(FK r).length)(H:FK u=(FK r).set k y):Be (zc.set i u)=(Be zc).set ((Be (zc.take i)).length+k) y:=by
 have hi:=(zl.1 h).1;have J:(zc.set i u)[i]? =some u:=by rw[x4 hi]
 rw[JV J,JV h,acv (zs _),List.drop_set_of_lt Ad];rw[aaw _ _ Ad,aaq,List.set_append_left _ _ E,H]
def TU{zc:List Cf}{i j r}(hi:zc[i]? =some r)(u:i<j):(Be (zc.take i)).length+3<=(Be (zc.take j)).length:=by
 have E:(zc.take j)[i]? =some r:=by rw[xa u];exact hi
 have H:=LH E;rw[abq,Nat.min_eq_left Ad,G9]at H;omega
def CG.inj{S}(h:CG S){i j:Nat}{a b}(hi:S.rows[i]? =some a)(E:S.rows[j]? =some b)(H:a.pos=b.pos):i=j:=by have J:=h.pos i a hi;have O:=h.pos j b E;rcases ad5 i j with u|e|u;have:=TU hi u;omega;exact e;have:=TU E u;omega
def FQ{zc:List Cf}{x r}(h:zc.find? (BR x)=some r):∃i,zc.findIdx? (BR x)=some i/\zc[i]? =some r/\r.pos=x/\r.live=true:=by
 have u:=aa3 h;simp only[BR,z4,x3]at u;cases hi:zc.findIdx? (BR x)with
 |none=> rw[yz]at hi;have E:=y0 h;have:=hi r E;have H:=aa3 h;rw[H]at this;simp_all
 |some i=> rw[yq]at hi;grind[List.find?_eq_some_iff_getElem,Nat.lt_trichotomy,List.getElem?_eq_getElem]
def L5{S}(h:CG S)(x):Bb S.rows x=0↔S.rows.find? (BR x)=none:=by
 unfold Bb;cases e:S.rows.find? (BR x)with
 |none=>simp
 |some r=>have:=(h.ok r (y0 e)).1.1;grind
def Xb{S}(h:CG S)(x):0<=Bb S.rows x/\Bb S.rows x<=10000000:=by
 unfold Bb;cases e:S.rows.find? (BR x)with
 |none=>simp
 |some r=>have:=(h.ok r (y0 e)).1;grind
def Aji{S}(h:CG S):∀x∈Be S.rows,-9223372036854775808<=x/\x<=Bh:=by intro x u;obtain⟨r,E,u⟩:=yk.1 u;have H:=h.ok r E;grind[FK,Hr]
def Aem{S}(h:CG S):(Be S.rows).length<=S.rows.length*1003:=by
 have key:∀zc,(∀r∈zc,r.lits.length<=1000)->(Be zc).length<=zc.length*1003:=by
  intro zc;induction zc with
  |nil=>grind[Be]
  |cons r l E=> grind[List.mem_cons_of_mem,List.mem_cons_self,Be,FK,List.length_append,G9]
 exact key _ λr u=>(h.ok r u).2.1
def B9:An->An->An
 |out,[]=>out
 |out,x::c=>B9 (if Bd out (-x)then out else out++[-x]) c
def G6(c:An):Bool:=c.any λx=>decide (Ak x=0)
def CR(c:An):An:=if G6 c then[]else if EG c then[]else B9 [] c
def Dc(c:An):Int:=if G6 c then 10 else if EG c then 11 else 0
def VK(c x):∀out,B9 out (c++[x])=(let o:=B9 out c;if Bd o (-x)then o else o++[-x]):=by
 induction c with
 |nil=>intro out;rfl
 |cons y c u=>intro out;rw[List.cons_append,B9,B9,u]
theorem ED(c):∀out y,y∈B9 out c↔y∈out\/ -y∈c:=by
 induction c with
 |nil=>grind[B9]
 |cons x c u=>
  intro out y;rw[B9,u];cases h:Bd out (-x);grind;have E:-x∈out:=by grind[Bd]
  grind
def Qa(c):∀out,(B9 out c).length<=out.length+c.length:=by
 induction c with
 |nil=>grind[B9]
 |cons x c u=> grind[B9,List.length_cons,Bd,List.length_append]
def Aax{c:An}{k x}(h:G6 (c.take k)=false)(u:c[k]? =some x)(E:Ak x≠0):G6 (c.take (k+1))=false:=by rw[AM u];grind[G6]
def AcM{c}{k:Nat}{x}(u:c[k]? =some x)(E:Ak x=0):G6 c=true:=by rw[G6,y7];grind
theorem MC{c}(h:G6 c=false):∀x∈c,Ak x≠0:=by grind[G6,List.any_eq_false]
def SF{c}(h:G6 c=false):∀x∈B9 [] c,-100000<=x/\x<=100000:=by intro x u;rw[ED]at u;rcases u with u|u;cases u;have:=FB (MC h _ u);omega
def Dg(l h:An):An×Bool×Int:=if EB l h then(l,true,0)else if Cy l h then(l++[BN l h],false,0)else([],false,22)
def BV(l:An):AT->Nat->An×Int×Int
 |[],i=>(l,i,23)
 |h::u,i=>if(Dg l h).2.2≠0 then([],i,(Dg l h).2.2)else if(Dg l h).2.1 then((Dg l h).1,i+1,0)else BV (Dg l h).1 u (i+1)
def K0(c:An)(u:AT):Int:=if Dc c≠0 then 0 else(BV (CR c) u 0).2.1
def F8(c:An)(u:AT):Int:=if Dc c≠0 then Dc c else(BV (CR c) u 0).2.2
structure KL(L:AT)(l0 t)(f:Int->Option Int):Prop where
 aE:Good (l0++t)
 out:∀z,z∉t->f z=none
 aa:∀j z,t[j]? =some z->∃(i:Nat)(c:An),f z=some (i:Int)/\L[i]? =some c/\Cy (l0++t.take j) c=true/\BN (l0++t.take j) c=z
def KL.nil{L l0}(h:Good l0):KL L l0 [] λ_=>none:=⟨by simp_all,λ_ _=>rfl,λj z u=>by simp_all⟩
def KL.snoc{L l0 t f}(h:KL L l0 t f){i:Nat}{c}(T:L[i]? =some c)(H:Cy (l0++t) c=true):KL L l0 (t++[BN (l0++t) c]) λz=>if z=BN (l0++t) c then some (i:Int)else f z:=by
 obtain⟨_,U,J,V,_⟩:=FY H;refine⟨by rw[<-yy];exact h.aE.step H,λz u=>?_,λj z E=>?_⟩;rw[zz,zy,not_or]at u;simp only[zo u.2];exact h.out z u.1;rcases aab j t.length with O|Z;rw[yh O]at E;have aa:=zm E;have ab:z≠BN (l0++t) c:=λe=>by rw[Jd]at J;simp_all
 obtain⟨ac,c',ad,ae,af,ag⟩:=h.aa j z E;grind;grind
def Jt(L:AT)(l0 t0 t:An)(k:Nat)(g:Bool):Prop:=(g=true->t0.length<t.length)/\(g=false->t=t0/\∀c∈L.take k,EB (l0++t) c=false/\Cy (l0++t) c=false)
def Jt.nil(L l0 t0):Jt L l0 t0 t0 0 false:=⟨λh=>(by cases h),λ_=>⟨rfl,AG⟩⟩
def Jt.grow{L l0 t0 t k g}(h:Jt L l0 t0 t k g)(u):Jt L l0 t0 (t++[u]) (k+1) true:=by
 refine⟨λ_=>?_,λh=>by cases h⟩;rw[zu,List.length_singleton];cases g with
 |true=>have:=h.1 rfl;omega
 |false=>rw[(h.2 rfl).1];omega
def Jt.skip{L l0 t0 t k g}(h:Jt L l0 t0 t k g){c}(H:L[k]? =some c)(J:EB (l0++t) c=false)(O:Cy (l0++t) c=false):Jt L l0 t0 t (k+1) g:=by refine⟨h.1,λE=>⟨(h.2 E).1,λd u=>?_⟩⟩;rw[AM H]at u;rcases zz.1 u with u|u;exact(h.2 E).2 d u;simp_all
def Ai5(x:Int):Int:=if x=-9223372036854775808 then x else-x
def Tc(L:AT)(f:Int->Option Int):Nat->Int->Prop
 |0,_=>False
 |u+1,i=>0<=i/\i<L.length/\∀x∈L.getD i.toNat [],∀k,f (Ai5 x)=some k->Tc L f u k
def Tc.succ{L f}:∀{u}{i},Tc L f u i->Tc L f (u+1) i
 |0,_,h=>h.elim
 |_+1,_,h=>⟨h.1,h.2.1,λx E k H=>(h.2.2 x E k H).succ⟩
def Tx(L:AT)(u:An×An):Prop:=u.1.Nodup/\(∀x∈u.1,0<=x/\x<(L.length:Int))/\u.2.length<=u.1.length/\(∀x∈u.2,x∈u.1)
def Tx.nil(L):Tx L ([],[]):=⟨ab8,AG,zs _,AG⟩
def Tx.push{L u}(h:Tx L u){i}(hi:i∉u.1)(H:0<=i)(J:i<(L.length:Int)):Tx L (u.1++[i],u.2)/\(u.2.length+1<=(u.1++[i]).length):=by refine⟨⟨?_,?_,by have:=h.2.2.1;grind,λx E=>yp _ (h.2.2.2 x E)⟩,by have:=h.2.2.1;simp_all⟩;rw[y2];exact⟨h.1,AG,λa O b hb=>by rw[zy.1 hb];grind⟩;intro x E;rcases zz.1 E with E|E;exact h.2.1 x E;simp_all
def Tx.len{L u}(h:Tx L u):u.1.length<=L.length:=by have:=Il (a:=u.1) (b:=(List.range L.length).map λj:Nat=>(j:Int)) h.1 (λx E=>by obtain⟨H,J⟩:=h.2.1 x E;rw[zw];exact⟨x.toNat,by rw[zv];omega,Ad⟩);simp_all
def Rn(a b:An×An):Prop:=(∀x∈a.1,x∈b.1)/\a.1.length+b.2.length<=b.1.length+a.2.length
def Rn.refl(a):Rn a a:=⟨λ_ h=>h,Ad⟩
def Rn.trans{a b c}(h:Rn a b)(k:Rn b c):Rn a c:=⟨λx u=>k.1 x (h.1 x u),by have:=h.2;have:=k.2;omega⟩
section
variable{L}{l0 t}{f}
theorem KL.eg(h:KL L l0 t f){z k}(e:f z=some k):z∈t:=by by_cases u:z∈t;exact u;rw[h.out z u]at e;cases e
theorem KL.eC(h:KL L l0 t f){z}(u:z∈l0)(E:z∈t):False:=by have:=h.aE.nodup;rw[y2]at this;grind
theorem KL.at(h:KL L l0 t f){z k}(e:f z=some k):∃(j i:Nat)(c:An),t[j]? =some z/\k=(i:Int)/\L[i]? =some c/\Cy (l0++t.take j) c=true/\BN (l0++t.take j) c=z/\z∉t.take j:=by obtain⟨j,u⟩:=abw.1 (h.eg e);obtain⟨i,c,E,H,J,O⟩:=h.aa j z u;rw[e]at E;grind[Option.some.inj,FY,Jd,List.mem_append_right]
theorem KL.ahead(h:KL L l0 t f){j z x c}(H:t[j]? =some z)(J:Cy (l0++t.take j) c=true)(O:BN (l0++t.take j) c=z)(T:x∈c)(U:Ak x≠0)(u:-x∈t):-x∈t.take j:=by have V:=zm H;by_cases e:x=z;subst e;exact absurd (xk l0 V) (h.aE.neg (xk l0 u));have:=((FY J).2.2.2.2 x T U (by rw[O];exact e)).2;rw[Jc]at this;rcases zz.1 this with E|E;exact(h.eC E u).elim;omega
theorem KL.inj(h:KL L l0 t f){a b k}(T:f a=some k)(hb:f b=some k):a=b:=by
 have key:∀{a b}{u E i:Nat}{c},t[u]? =some a->t[E]? =some b->Cy (l0++t.take u) c=true->BN (l0++t.take u) c=a->Cy (l0++t.take E) c=true->BN (l0++t.take E) c=b->L[i]? =some c->u<E->a=b:=by intro a b u E i c U V u1 v1 u2 H _ ab;by_cases e:a=b;exact e;have J:=(FY u1).1;have O:=(FY u1).2.1;rw[v1]at J O;have:=((FY u2).2.2.2.2 a J O (by rw[H];exact e)).1;rw[Jd]at this;grind[List.mem_append_right,List.mem_take_iff_getElem,List.getElem?_eq_some_iff]
 obtain⟨u,Z,ac,U,ad,ae,u1,v1,_⟩:=h.at T;obtain⟨E,aa,af,V,ag,ah,u2,H,_⟩:=h.at hb;have hi:Z=aa:=Ad;grind
def Ae5(L:AT)(o:An):AT:=o.map λi=>L.getD i.toNat []
def TO(L:AT)(l0 t:An)(f:Int->Option Int)(o:An):Prop:=∃d,(∀z∈d,z∈t)/\(∀z∈d,∃i∈o,f z=some i)/\(∀i∈o,∃z∈d,f z=some i)/\∀u n,BV l0 (Ae5 L o++u) n=BV (l0++d) u (n+o.length)
theorem TO.nil:TO L l0 t f []:=⟨[],AG,AG,AG,λu n=>by simp[Ae5]⟩
structure Oq(L)(l0 t)(f)(a b:An×An):Prop where
 inv:TO L l0 t f b.2
 more:∀k∈a.2,k∈b.2
 seen:∀k∈a.1,k∈b.1
 sub:∀k∈b.2,k∈b.1
 open_:∀k∈b.1,k∈b.2\/k∈a.1
 fresh:∀k∈b.2,k∈a.2\/k∉a.1
theorem Oq.refl{a}(h:TO L l0 t f a.2)(u:∀k∈a.2,k∈a.1):Oq L l0 t f a a:=⟨h,λ_ h=>h,λ_ h=>h,u,λ_ h=>Or.inr h,λ_ h=>Or.inl h⟩
theorem Oq.trans{a b c}(h:Oq L l0 t f a b)(k:Oq L l0 t f b c):Oq L l0 t f a c:=⟨k.inv,λx u=>k.more x (h.more x u),λx u=>k.seen x (h.seen x u),k.sub,λx u=>by
 rcases k.open_ x u with E|E;simp_all;rcases h.open_ x E with H|H;exact Or.inl (k.more x H);simp_all,λx u=>by
 rcases k.fresh x u with E|E;exact h.fresh x E;exact Or.inr (λH=>E (h.seen x H))⟩
end
section
variable{L}{l0 t}{f}
theorem TO.subset{d:An}(u:∀z∈d,z∈t){x}(E:x∈l0++d):x∈l0++t:=by grind
end
def Yi{c}(h:Dc c=0):Good (CR c)/\CR c=B9 [] c/\G6 c=false/\EG c=false:=by
 unfold Dc at h;cases hb:G6 c with
 |true=>rw[hb]at h;simp_all
 |false=>
  rw[hb]at h;cases E:EG c with
  |true=>rw[E]at h;simp_all
  |false=>
   have H:CR c=B9 [] c:=by rw[CR,hb,E];rfl
   refine⟨?_,H,rfl,rfl⟩;rw[H];have Z:∀c out,out.Nodup->(B9 out c).Nodup:=by
    intro c;induction c with
    |nil=>intro out h;exact h
    |cons x c aa=>
     intro out h;rw[B9];refine aa _ ?_;cases ab:Bd out (-x)with
     |true=>exact h
     |false=> rw[zo AG,y2];rw[Jd]at ab;grind
   have J:∀x∈B9 [] c,Ak x≠0:=λx u=>by rw[ED]at u;rcases u with u|u;cases u;have:=MC hb _ u;rwa[Bk]at this
   refine⟨J,?_⟩;have O:=Z c [] ab8;rw[List.nodup_iff_pairwise_ne]at O;rw[List.nodup_iff_pairwise_ne,x2];refine O.imp_of_mem (λ{a b}ac T ae=>λe=>?_);rcases Ki (J b T) e with e|e;omega;rw[EG,xm]at E;rw[ED]at ac T;have U:-a∈c:=by simp_all
   have af:-b∈c:=by simp_all
   refine E (-a) U ?_;have V:=MC hb _ U;have ad:IJ (-a)=a:=by have:=FB V;unfold IJ;rw[zq Ad];omega
   unfold Jj Fu;rw[ad,Bk];rw[Bk]at V;have:a∈c:=by rw[e];omega
   simp only[z4,z8,Jc];simp_all
theorem CD{l x}:Bd l x=true↔x∈l:=by simp[Bd]
def Afq{l c y}(T:Good l)(U:c.Nodup)(V:y∈c)(Z:Ak y≠0)(aa:y∉l)(ab:-y∉l)(E:∀x∈c,x≠y->Ak x≠0/\-x∈l):Cy l c=true/\BN l c=y:=by
 have H:∀x∈c,BK l x=if x=y then 0 else-1:=by intro x u;by_cases e:x=y;subst e;rw[zq rfl];unfold BK;rw[zo Z,zo (by rw[CD];exact aa),zo (by rw[CD];exact ab)];obtain⟨ac,J⟩:=E x u e;rw[zo e];unfold BK;rw[zo ac,zo (by rw[CD];exact T.neg J),zq (CD.2 J)]
 have ad:CZ l c 1=0:=by unfold CZ;rw[adt.2];rfl;intro x u;rw[H x u];by_cases e:x=y<;>simp[e]
 have ae:c.filter (JP l)=[y]:=by
  have O:∀x∈c,JP l x=decide (x=y):=by grind[JP]
  rw[acj O];clear H O ad E;induction c with
  |nil=>cases V
  |cons z c af=>
   rw[xx]at U;rw[adh];by_cases e:z=y;subst e;simp only[decide_true,if_true];have:c.filter (λx=>decide (x=z))=[]:=by rw[aas];grind
   rw[this];grind
 grind[CZ,P3,Uu,BN,IL]
def SJ{l c}(h:Cy l c=true):EB l c=false:=by unfold Cy at h;simp only[z4,z8]at h;grind[EB,Ew]
def Agb{l c}(H:Good l)(u:∀x∈c,-x∈l):EB l c=true:=AfH λx E _=>⟨Jd.2 (H.neg (u x E)),CD.2 (u x E)⟩
inductive Oj:List Int->List (List Int)->Prop
 |last{l h}:EB l h=true->Oj l [h]
 |more{l h}{hs}:Cy l h=true->Oj (l++[BN l h]) hs->Oj l (h::hs)
def Oj.chain:∀{l}{u},Oj l u->∀i,(BV l u i).2.2=0
 |_,_,.last h,i=>by grind[BV,Dg]
 |l,h::u,.more E H,i=>by
  unfold BV;have J:=SJ E;have e:Dg l h=(l++[BN l h],false,0):=by grind[Dg]
  rw[e];simp only[ne_eq,not_true_eq_false,if_false,acf];exact H.chain (i+1)
def F9(u:An)(i:Nat)(c:An):Prop:=∃y,u[i]? =some y/\y∈c/\c.Nodup/\∀x∈c,x≠y->∃j,j<i/\u[j]? =some (-x)
structure Kc(T)(zd zi:An)(N:List Nat)(r:Nat->An):Prop where
 aE:Good T
 bw:∀x∈zd,-x∈T
 en:N.Pairwise (· <·)
 why:∀i∈N,F9 T i (r i)
 free:∀i∈N,∀y,T[i]? =some y->-y∉zd
 down:∀i∈N,∀y,T[i]? =some y->∀x∈r i,x≠y->x∈zd\/∃j∈N,T[j]? =some (-x)
 e1:∀x∈zi,x∈zd\/∃j∈N,T[j]? =some (-x)
def Good.get_inj{u}(h:Good u){i j:Nat}{y}(hi:u[i]? =some y)(E:u[j]? =some y):i=j:=by have H:=h.nodup;grind[List.getElem_inj]
def Hh(u zd:An)(done:List Nat):An:=B9 [] zd++done.map λi=>u.getD i 0
def Kc.dR{E zd zi N r}(h:Kc E zd zi N r){done}(H:∀i∈done,i∈N):∀x∈Hh E zd done,x∈E:=by intro x u;unfold Hh at u;rcases zz.1 u with u|u;rw[ED]at u;rcases u with u|u;cases u;have:=h.bw _ u;simp_all;obtain⟨i,hi,rfl⟩:=zw.1 u;obtain⟨y,J,_⟩:=h.why i (H i hi);rw[yc,J];grind
def AeN{E l}(h:Good E)(u:∀x∈l,x∈E)(H:l.Nodup):Good l:=⟨λx J=>h.1 x (u x J),x2.2 (H.imp_of_mem λO hb T e=>T (Si h.2 (u _ O) (u _ hb) e))⟩
def Uc(c):∀out,out.Nodup->(B9 out c).Nodup:=by
 induction c with
 |nil=>exactλout h=>h
 |cons x c u=> intro out h;rw[B9];refine u _ ?_;by_cases e:Bd out (-x)=true;rw[zq e];exact h;rw[zo e,y2];grind[CD]
def Kc.dU{J zd zi N r}(h:Kc J zd zi N r){done}(E:∀i∈done,i∈N)(T:done.Nodup):Good (Hh J zd done):=by refine AeN h.aE (h.dR E) ?_;unfold Hh;rw[y2];refine⟨Uc _ _ ab8,?_,λa u b hb=>?_⟩;refine x2.2 (T.imp_of_mem λu hb U e=>U ?_);obtain⟨y,H,_⟩:=h.why _ (E _ u);obtain⟨z,O,_⟩:=h.why _ (E _ hb);simp only[yc,H,O,Option.getD_some]at e;subst e;exact h.aE.get_inj H O;obtain⟨i,hi,rfl⟩:=zw.1 hb;obtain⟨y,H,_⟩:=h.why i (E i hi);rw[yc,H];rintro rfl;rw[ED]at u;rcases u with u|u;cases u;exact h.free i (E i hi) _ H u
def Kc.leads{E zd zi N r}(h:Kc E zd zi N r):∀rest done,done++rest=N->Oj (Hh E zd done) (rest.map r++[zi]):=by
 intro rest
 induction rest with
 |nil=>
  intro done e
  rw[yg]at e
  subst e
  refine .last (Agb (h.dU (λi hi=>hi) (h.en.imp λh=>ad6 h)) λx H=>?_)
  unfold Hh
  rw[zz]
  rcases h.e1 x H with af|⟨j,J,ao⟩
  grind[ED]
  grind
 |cons i rest aq=>
  intro done e
  have U:i∈N:=by rw[<-e];simp
  have V:∀j∈done,j∈N:=λj J=>by rw[<-e];grind
  have Z:=h.en
  rw[<-e,ab4]at Z
  have ag:=h.dU V (Z.1.imp λh=>ad6 h)
  obtain⟨y,O,ah,aj,ak⟩:=h.why i U
  have aa:=zm O
  have ab:=Afq (c:=r i) ag aj ah (h.aE.1 y aa) (λu=>by
   unfold Hh at u
   rcases zz.1 u with u|u
   rw[ED]at u
   rcases u with u|u
   cases u
   exact h.free i U y O u
   obtain⟨j,J,T⟩:=zw.1 u
   obtain⟨z,ac,_⟩:=h.why j (V j J)
   rw[yc,ac]at T
   simp at T
   subst T
   exact(λal=>by have:=Z.2.2 i al i AG;omega) (h.aE.get_inj O ac▸J)) (λu=>h.aE.neg (x:=y) (h.dR V _ u) aa) (λx H ad=>by
   obtain⟨j,au,ae⟩:=ak x H ad
   refine⟨?_,?_⟩
   have:=h.aE.1 _ (zm ae)
   rwa[Bk]at this
   unfold Hh
   rw[zz]
   rcases h.down i U y O x H ad with af|⟨av,aw,am⟩
   grind[ED]
   have T:=h.aE.get_inj ae am
   grind[List.pairwise_cons])
  rw[xn,List.cons_append]
  refine .more ab.1 ?_
  rw[ab.2]
  have an:Hh E zd done++[y]=Hh E zd (done++[i]):=by
   grind[Hh,List.append_assoc,List.map_singleton]
  rw[an]
  simp_all
def Kc.show{u zd zi N r}(h:Kc u zd zi N r)(hb:Dc zd=0):F8 zd (N.map r++[zi])=0:=by
 have e:CR zd=B9 [] zd:=by grind[Dc,CR]
 unfold F8;rw[zo (by rw[hb];simp),e];have:=h.leads N [] rfl;have E:Hh u zd []=B9 [] zd:=by grind[Hh]
 rw[E]at this;exact this.chain 0
structure AH where
 lit:Int
 level:Int
 reason:Int
structure JS where
 vars:Int
 rows:List AH
 depth:Int
def isVar(v:Int)(r:AH):Bool:=Ak r.lit==v
def BH(zc:List AH)(v:Int):Int:=CM (isVar v) zc
def DC(zc:List AH)(v:Int):Option AH:=zc.find? (isVar v)
def AR(zc:List AH)(v:Int):Int:=match DC zc v with|some r=>r.level|none=>-1
def D4(zc:List AH)(v:Int):Int:=match DC zc v with|some r=>r.reason|none=>-1
def Az(zc:List AH):An:=zc.map AH.lit
def JO(l:Int)(r:AH):Bool:=(r.lit==l)||(r.lit==-l)
def CJ(zc:List AH)(l:Int):Int:=match zc.find? (JO l)with|some r=>if r.lit=l then 1 else-1|none=>0
def Df(S:JS)(l:Int):Int:=if AV l S.vars≠0 then 10 else if 0<=BH S.rows (Ak l)then 21 else 0
def Gx(S:JS)(l u:Int):Int:=if Df S l≠0 then Df S l else if u<0 then 2 else 0
def Ji(S:JS)(l:Int):JS:=if Df S l=0 then⟨S.vars,S.rows++[⟨l,S.depth+1,-1⟩],S.depth+1⟩else S
def Hw(S:JS)(l u:Int):JS:=if Gx S l u=0 then⟨S.vars,S.rows++[⟨l,S.depth,u⟩],S.depth⟩else S
def Ez(lv:Int):Int:=if lv<0 then 0 else lv
def Bp(zc:List AH)(lv:Int):List AH:=zc.filter λr=>decide (r.level<=lv)
def Fy(zc:List AH)(lv:Int):List AH:=zc.filter λr=>!decide (r.level<=lv)
def GH(S:JS)(lv:Int):JS:=⟨S.vars,Bp S.rows (Ez lv),if Ez lv<S.depth then Ez lv else S.depth⟩
def MO(S:JS)(lv:Int):An:=(Az (Fy S.rows (Ez lv))).reverse
structure DW(S:JS):Prop where
 v0:0<=S.vars
 v1:S.vars<=100000
 d0:0<=S.depth
 lits:∀r∈S.rows,AV r.lit S.vars=0
 nodup:(S.rows.map λr=>Ak r.lit).Nodup
 sorted:S.rows.Pairwise λa b=>a.level<=b.level
 de:∀r∈S.rows,0<=r.level/\r.level<=S.depth
 aY:∀r∈S.rows,-1<=r.reason/\r.reason<=Bh
def AU{l v}(h:AV l v=0):1<=Ak l/\Ak l<=v/\l≠0/\-100000<=l/\l<=100000/\(Ak l=l\/Ak l=-l):=by grind[AV,Ak]
def DW.new{v}(u:0<=v)(E:v<=100000):DW ⟨v,[],0⟩:=⟨u,E,aat _,AG,AG,AG,AG,AG⟩
theorem Hn{zc v}:¬0<=BH zc v↔∀r∈zc,Ak r.lit≠v:=by grind[BH,CM,isVar,List.findIdx?_eq_none_iff,List.findIdx?_eq_some_iff_getElem,Int.natCast_nonneg]
def QM{S l}(h:Df S l=0):AV l S.vars=0/\∀r∈S.rows,Ak r.lit≠Ak l:=by unfold Df at h;by_cases u:AV l S.vars≠0;rw[zq u]at h;cases h;rw[zo u]at h;by_cases E:0<=BH S.rows (Ak l);rw[zq E]at h;cases h;grind[Hn]
def DW.push{S}(h:DW S){l lv rs d}(H:Df S l=0)(O:S.depth<=d)(T:S.depth<=lv)(U:lv<=d)(u:-1<=rs/\rs<=9223372036854775807):DW ⟨S.vars,S.rows++[⟨l,lv,rs⟩],d⟩:=by obtain⟨V,Z⟩:=QM H;have aa:=h.d0;refine⟨h.v0,h.v1,by grind,?_,?_,?_,?_,?_⟩;intro r u;rcases zz.1 u with u|u;exact h.lits r u;simp_all;show(List.map _ (S.rows++_)).Nodup;rw[yo,y2];refine⟨h.nodup,AG,?_⟩;simp_all;show(S.rows++_).Pairwise _;rw[ab4];refine⟨h.sorted,AG,λa J b hb=>?_⟩;rw[zy.1 hb];have:=(h.de a J).2;grind;intro r u;rcases zz.1 u with u|u;have:=h.de r u;grind;grind;intro r E;rcases zz.1 E with E|E;exact h.aY r E;simp_all
def DW.dec{S}(h:DW S)(l):DW (Ji S l):=by unfold Ji;by_cases u:Df S l=0;rw[zq u];exact h.push u Ad Ad Ad Ad;simp_all
def Ahh{S l rs}(h:Gx S l rs=0):Df S l=0/\0<=rs:=by grind[Gx]
def DW.imp{S}(h:DW S)(l){rs}(H:rs<=9223372036854775807):DW (Hw S l rs):=by unfold Hw;by_cases u:Gx S l rs=0;rw[zq u];obtain⟨E,J⟩:=Ahh u;exact h.push E Ad Ad Ad Ad;simp_all
def Ni(zc lv):(Bp zc lv).Sublist zc:=xw
def Px{zc lv r}:r∈Bp zc lv↔r∈zc/\r.level<=lv:=by simp[Bp]
def DW.back{S}(h:DW S)(lv):DW (GH S lv):=by
 have H:=h.d0;have J:0<=Ez lv:=by unfold Ez;split<;>omega
 refine⟨h.v0,h.v1,by show 0<=(if Ez lv<S.depth then Ez lv else S.depth);split<;>omega,λr u=>h.lits r (Px.1 u).1,?_,h.sorted.sublist (Ni _ _),λr u=>?_,λr u=>h.aY r (Px.1 u).1⟩;exact h.nodup.sublist ((Ni _ _).map _);obtain⟨E,O⟩:=Px.1 u;have:=h.de r E;exact⟨this.1,by show r.level<=(if Ez lv<S.depth then Ez lv else S.depth);split<;>omega⟩
def TA{zc}(h:zc.Pairwise λa b=>a.level<=b.level)(lv):zc=Bp zc lv++Fy zc lv:=by
 induction zc with
 |nil=>rfl
 |cons r zc u=>
  rw[abv]at h;unfold Bp Fy at u⊢;by_cases J:r.level<=lv;rw[aap (by grind),aao (by grind),List.cons_append,<-u h.2];have E:zc.filter (λr=>decide (r.level<=lv))=[]:=by rw[aas];grind
  have H:zc.filter (λr=>!decide (r.level<=lv))=zc:=by rw[x9];grind
  rw[aao (by simp_all),aap (by simp_all),E,H,List.nil_append]
def BS(zc:List AH)(E:Int)(u:An):Prop:=(u.length:Int)=E/\∀(i:Nat)(b),u[i]? =some b->b=((Bp zc i).length:Nat)
def RZ(zc r lv):Bp (zc++[r]) lv=Bp zc lv++if r.level<=lv then[r]else[]:=by unfold Bp;rw[y5];by_cases h:r.level<=lv<;>simp[h]
def T7{zc lv}(h:∀r∈zc,r.level<=lv):Bp zc lv=zc:=by grind[Bp,List.filter_eq_self]
def Yt:BS [] 0 []:=⟨rfl,λi b h=>by simp_all⟩
def XR{S}(h:DW S){u}(hb:BS S.rows S.depth u)(l rs):BS (S.rows++[⟨l,S.depth+1,rs⟩]) (S.depth+1) (u++[(S.rows.length:Int)]):=by
 have O:=hb.1;refine⟨by simp_all,λi b hi=>?_⟩;rw[RZ];by_cases E:i<u.length;rw[yh E]at hi;rw[zo (by grind),yg];exact hb.2 i b hi;have H:i=u.length:=by have:=(zl.1 hi).1;grind
 subst H;rw[yi (zs _)]at hi;simp at hi;rw[zo (by grind),yg,T7 (λr J=>by have:=(h.de r J).2;omega)];omega
def Qu{S:JS}{u}(hb:BS S.rows S.depth u)(l rs):BS (S.rows++[⟨l,S.depth,rs⟩]) S.depth u:=by have E:=hb.1;refine⟨E,λi b hi=>?_⟩;rw[RZ,zo (by grind),yg];exact hb.2 i b hi
def ZR(zc){a b}(h:a<=b):Bp (Bp zc b) a=Bp zc a:=by unfold Bp;rw[ac4];grind
def Vu{S:JS}{u}(hb:BS S.rows S.depth u){lv:Nat}(E:(lv:Int)<S.depth):BS (Bp S.rows lv) lv (u.take lv):=by have H:=hb.1;refine⟨by rw[ya];omega,λi b hi=>?_⟩;rw[xb]at hi;by_cases h:i<lv;rw[zq h]at hi;rw[ZR _ Ad];exact hb.2 i b hi;simp_all
def BM(zc:List AH)(v:Int):Nat->Int
 |0=>match DC zc v with|some r=>if r.lit<0 then-1 else 1|none=>0
 |1=>match DC zc v with|some r=>r.level|none=>0
 |2=>match DC zc v with|some r=>r.reason|none=>0
 |3=>match DC zc v with|some _=>BH zc v|none=>0
 |_=>0
def IT{zc v}:DC zc v=none↔∀r∈zc,Ak r.lit≠v:=by grind[DC,List.find?_eq_none,isVar]
def O3{zc r v}(h:Ak r.lit≠v):DC (zc++[r]) v=DC zc v:=by
 unfold DC;rw[aci];have:List.find? (isVar v) [r]=none:=by rw[y6];grind[isVar]
 rw[this];cases zc.find? (isVar v)<;>rfl
def QP{zc r v}(h:∀x∈zc,Ak x.lit≠v)(u:Ak r.lit=v):DC (zc++[r]) v=some r:=by grind[DC,isVar]
def Ow{zc r v}(h:Ak r.lit≠v):BH (zc++[r]) v=BH zc v:=by
 unfold BH CM;rw[List.findIdx?_append];have:List.findIdx? (isVar v) [r]=none:=by rw[yz];grind[isVar]
 rw[this];cases zc.findIdx? (isVar v)<;>rfl
def PE{zc r v}(h:∀x∈zc,Ak x.lit≠v)(u:Ak r.lit=v):BH (zc++[r]) v=(zc.length:Nat):=by grind[isVar,List.findIdx?_eq_none_iff,BH,CM]
def KB{zc r v}(h:Ak r.lit≠v)(k):BM (zc++[r]) v k=BM zc v k:=by
 match k with
 |0|1|2|3=>simp only[BM,O3 h,Ow h]
 |_+4=>rfl
def J3{zc v}(h:∀x∈zc,Ak x.lit≠v)(k):BM zc v k=0:=by
 match k with
 |0|1|2|3=>simp only[BM,IT.2 h]
 |_+4=>rfl
def Sm(R:List AH)(cl:Int->Option An):Prop:=∀i r,R[i]? =some r->0<=r.reason->∃c,cl r.reason=some c/\F9 (Az R) i c
theorem Co{R}{i:Nat}{r}(h:R[i]? =some r):(Az R)[i]? =some r.lit:=by grind[Az]
theorem EU{R}{i:Nat}{y}(h:(Az R)[i]? =some y):∃r,R[i]? =some r/\r.lit=y:=by grind[Az,Option.map_eq_some_iff]
inductive FU(R:List AH)(cl:Int->Option (List Int))(zd:List Int):Int->Prop
 |keep{x}:x∈zd->FU R cl zd x
 |why{x}{i:Nat}{r}{c}:R[i]? =some r->r.lit=-x->0<=r.reason->cl r.reason=some c->(∀y∈c,y≠-x->FU R cl zd y)->FU R cl zd x
def FU.trans{R cl A B}(h:∀x∈A,FU R cl B x){x}(u:FU R cl A x):FU R cl B x:=by
 induction u with
 |keep u=>simp_all
 |why E H J O _ T=>exact .why E H J O T
def FU.mono{R cl A B}(h:∀x∈A,x∈B){x}(u:FU R cl A x):FU R cl B x:=u.trans λy E=>.keep (h y E)
def Jf(R:List AH)(cl:Int->Option An)(stop:An)(M:Nat->Bool):Prop:=∀i,M i=true->∃r c,R[i]? =some r/\0<=r.reason/\cl r.reason=some c/\-r.lit∉stop/\∀y∈c,y≠r.lit->y∈stop\/∃j s,M j=true/\R[j]? =some s/\s.lit=-y
def EP(R:List AH)(M:Nat->Bool):List Nat:=(List.range R.length).filter M
def Io(R:List AH)(cl:Int->Option An)(i:Nat):An:=match R[i]? with|some r=>(cl r.reason).getD []|none=>[]
def T6{R cl stop zi M}(O:Good (Az R))(T:Sm R cl)(U:∀x∈stop,-x∈Az R)(E:Jf R cl stop M) (ac:∀x∈zi,x∈stop\/∃j s,M j=true/\R[j]? =some s/\s.lit=-x):Kc (Az R) stop zi (EP R M) (Io R cl):=by
 have mem:∀{i},i∈EP R M->M i=true/\i<R.length:=λ{i}h=>by grind[EP]
 have put:∀{j}{s},M j=true->R[j]? =some s->j∈EP R M:=λ{j s}u H=>by grind[EP,List.getElem?_eq_some_iff]
 refine⟨O,U,?_,λi hi=>?_,λi hi y J=>?_,λi hi y J x V ad=>?_,λx V=>?_⟩;grind[EP,List.pairwise_lt_range];obtain⟨r,c,u,H,Z,_⟩:=E i (mem hi).1;obtain⟨c',aa,ab⟩:=T i r u H;grind[Io,F9];obtain⟨r,c,u,_,_,aa,_⟩:=E i (mem hi).1;have:=Co u;rw[J]at this;simp_all;obtain⟨r,c,u,H,Z,_,ab⟩:=E i (mem hi).1;have e:=Co u;rw[J]at e;grind[Io,Co];grind[Co]
def VL{R cl}{zd out:An}(D:Int->Prop) (E:∀i r,R[i]? =some r->D (-r.lit)->0<=r.reason/\∃c,cl r.reason=some c/\∀y∈c,y≠r.lit->FU R cl [] y\/((y∈zd\/D y)/\∃(j:Nat)(s:AH),j<i/\R[j]? =some s/\s.lit=-y)) (V:∀x∈zd,x∈out\/D x):∀(n)(i:Nat)(r),i<n->R[i]? =some r->(-r.lit∈zd\/D (-r.lit))->FU R cl out (-r.lit):=by
 intro n;induction n with
 |zero=>omega
 |succ n Z=>
  intro i r hi u aa;have H:-r.lit∈out\/D (-r.lit):=by grind
  rcases H with h|h;exact .keep h;obtain⟨J,c,O,T⟩:=E i r u h;refine .why u Ad J O λy U ab=>?_;rcases T y U Ad with h|⟨h,j,s,ac,ad,e⟩;exact h.mono AG;grind
def Dk{R:List AH}(h:(R.map λr=>Ak r.lit).Nodup){i j:Nat}{a b}(hi:R[i]? =some a)(u:R[j]? =some b)(E:Ak a.lit=Ak b.lit):i=j:=by
 have H:(R.map λr=>Ak r.lit)[i]? =some (Ak a.lit):=by rw[yd,hi];rfl
 have J:(R.map λr=>Ak r.lit)[j]? =some (Ak a.lit):=by rw[yd,u,E];rfl
 grind[List.getElem_inj]
theorem AhY{R}(h:(R.map λr=>Ak r.lit).Nodup){i:Nat}{a}(hi:R[i]? =some a):DC R (Ak a.lit)=some a:=by
 unfold DC;cases u:R.find? (isVar (Ak a.lit))with
 |none=> rw[y6]at u;exact absurd (beq_self_eq_true (Ak a.lit)) (u a (zm hi))
 |some b=> have E:=aa3 u;obtain⟨j,H⟩:=z0 (y0 u);have:=Dk h hi H ((eq_of_beq E).symm);simp_all
def Dx{R}(h:(R.map λr=>Ak r.lit).Nodup){i:Nat}{a}(hi:R[i]? =some a):AR R (Ak a.lit)=a.level/\D4 R (Ak a.lit)=a.reason:=by grind[AR,D4,AhY]
structure Ex where
 seen:Int->Bool
 lits:An
 many:Int
def DG(P:Ex)(v:Int)(b:Bool):Int->Bool:=λu=>if u=v then b else P.seen u
def Eu(R:List AH)(d but:Int)(P:Ex)(l:Int):Ex:=if Ak l=but\/P.seen (Ak l)=true\/AR R (Ak l)<=0 then P else if AR R (Ak l)=d then⟨DG P (Ak l) true,P.lits,P.many+1⟩else⟨DG P (Ak l) true,P.lits++[l],P.many⟩
def CH(R:List AH)(d but:Int)(P:Ex)(c:An):Ex:=c.foldl (Eu R d but) P
def Br(d:Int)(zg:Int->Bool)(r:AH):Bool:=zg (Ak r.lit)&&decide (r.level=d)
def DI(R:List AH)(d:Int)(P:Ex):An:=(R.filter (Br d P.seen)).map λr=>-r.lit
def DS(R:List AH)(cl:Int->Option An)(d:Int):Nat->Ex->Ex
 |0,P=>P
 |n+1,P=>if P.many<=1 then P else match R[n]? with
  |some r=>if Br d P.seen r=true/\0<=r.reason then DS R cl d n (CH R d (Ak r.lit) ⟨DG P (Ak r.lit) false,P.lits,P.many-1⟩ ((cl r.reason).getD []))else DS R cl d n P
  |none=>DS R cl d n P
structure Gy(R:List AH)(d)(n)(P:Ex):Prop where
 lits:∀x∈P.lits,∃(i:Nat)(r:AH),R[i]? =some r/\r.lit=-x/\1<=r.level/\r.level<d/\P.seen (Ak x)=true
 vars:(P.lits.map Ak).Nodup
 seen:∀v,P.seen v=true->∃(i:Nat)(r:AH),R[i]? =some r/\Ak r.lit=v/\1<=r.level/\(r.level=d->i<n)/\(r.level≠d->∃x∈P.lits,Ak x=v)
 many:P.many=((R.filter (Br d P.seen)).length:Nat)
def Wh(R:List AH)(d:Int)(n:Nat)(l:Int):Prop:=∃(i:Nat)(r:AH),R[i]? =some r/\r.lit=-l/\(r.level=d->i<n)
def Qp{R:List AH}(E:(R.map λr=>Ak r.lit).Nodup){d zg}{i:Nat}{r}(hi:R[i]? =some r)(O:r.level=d)(T:zg (Ak r.lit)=false):(R.filter (Br d λu=>if u=Ak r.lit then true else zg u)).length=(R.filter (Br d zg)).length+1:=by
 induction R generalizing i with
 |nil=>simp_all
 |cons a R U=>
  rw[xn,xx]at E;cases i with
  |zero=>
   simp at hi;subst hi;have H:Br d (λu=>if u=Ak a.lit then true else zg u) a=true:=by grind[Br]
   have J:Br d zg a=false:=by grind[Br]
   rw[adh,adh,H,J];simp only[if_true,acf,if_false,List.length_cons];grind[List.filter_congr,Br]
  |succ i=> grind[Ak,List.mem_of_getElem?,Br]
theorem GP{R d P x}:x∈DI R d P↔∃(i:Nat)(r:AH),R[i]? =some r/\-r.lit=x/\r.level=d/\P.seen (Ak r.lit)=true:=by unfold DI;rw[zw];constructor;rintro⟨r,u,e⟩;rw[ye]at u;obtain⟨i,hi⟩:=z0 u.1;have h:=u.2;simp only[Br,z4,z8]at h;grind;grind[List.mem_of_getElem?,Br]
def Aaz{R}(T:(R.map λr=>Ak r.lit).Nodup){d but}(an:∀r∈R,r.level<=d){n P}(h:Gy R d n P){l}(ah:Ak l≠but->Wh R d n l):
 Gy R d n (Eu R d but P l)/\(∀x,x∈P.lits\/x∈DI R d P->x∈(Eu R d but P l).lits\/x∈DI R d (Eu R d but P l))/\
  (Ak l≠but->AR R (Ak l)<=0\/l∈(Eu R d but P l).lits\/l∈DI R d (Eu R d but P l)):=by
 unfold Eu
 by_cases E:Ak l=but\/P.seen (Ak l)=true\/AR R (Ak l)<=0
 rw[zq E]
 refine⟨h,λx u=>u,λhb=>?_⟩
 rcases E with E|E|E
 exact absurd E hb
 obtain⟨i,r,hi,ac,_⟩:=ah hb
 obtain⟨j,s,H,ao,_,_,aq⟩:=h.seen _ E
 have J:Ak r.lit=Ak l:=by rw[ac,Bk]
 have aj:=Dk T hi H (J.trans ao.symm)
 subst aj
 rw[hi]at H
 cases H
 refine .inr ?_
 by_cases ad:r.level=d
 grind[GP]
 obtain⟨x,u,ae⟩:=aq ad
 obtain⟨k,t,au,av,_⟩:=h.lits x u
 have az:=Dk T hi au (by rw[J,av,Bk,ae])
 simp_all
 exact .inl E
 rw[zo E]
 have ak:P.seen (Ak l)=false:=by cases aA:P.seen (Ak l)<;>simp_all
 have ad:=λe=>E (.inr (.inr e))
 obtain⟨i,r,hi,ac,aB⟩:=ah (λe=>E (.inl e))
 have J:Ak r.lit=Ak l:=by rw[ac,Bk]
 have al:=(Dx T hi).1
 rw[J]at al
 rw[al]at ad⊢
 have am:∀{x},x∈DI R d P->∀L m,x∈DI R d ⟨DG P (Ak l) true,L,m⟩:=λ{x}u L m=>by
  grind[GP,DG]
 have aC:∀x∈P.lits,Ak x≠Ak l:=λx u e=>by
  obtain⟨_,_,_,_,_,_,g⟩:=h.lits x u
  rw[e,ak]at g
  cases g
 by_cases U:r.level=d
 rw[zq U]
 refine⟨⟨λx u=>?_,h.vars,λv af=>?_,?_⟩,λx u=>u.imp id λu=>am u _ _,λ_=>.inr (.inr (GP.2 ⟨i,r,hi,Ad,U,by show DG P _ _ _=true;unfold DG;rw[zq J]⟩))⟩
 obtain⟨j,s,H,V,Z,aa,ab⟩:=h.lits x u
 exact⟨j,s,H,V,Z,aa,by show DG P _ _ _=true;unfold DG;split;rfl;exact ab⟩
 have O:DG P (Ak l) true v=true:=af
 unfold DG at O
 by_cases e:v=Ak l
 grind
 rw[zo e]at O
 exact h.seen v O
 show P.many+1=_
 rw[h.many]
 have:=Qp T hi U (zg:=P.seen) (by rw[J];exact ak)
 rw[J]at this
 unfold DG
 rw[this]
 rfl
 rw[zo U]
 have aw:r.level<d:=by have:=an r (zm hi);omega
 refine⟨⟨λx u=>?_,?_,λv af=>?_,?_⟩,λx u=>u.imp (λu=>yp _ u) λu=>am u _ _,λ_=>.inr (.inl AG)⟩
 rcases zz.1 u with u|u
 obtain⟨j,s,H,V,Z,aa,ab⟩:=h.lits x u
 exact⟨j,s,H,V,Z,aa,by show DG P _ _ _=true;unfold DG;split;rfl;exact ab⟩
 rw[zy.1 u]
 exact⟨i,r,hi,ac,Ad,aw,by show DG P _ _ _=true;unfold DG;rw[zq rfl]⟩
 show(List.map Ak (P.lits++[l])).Nodup
 rw[yo,y2]
 refine⟨h.vars,AG,λa ax b aD=>?_⟩
 obtain⟨x,u,rfl⟩:=zw.1 ax
 simp_all
 have O:DG P (Ak l) true v=true:=af
 unfold DG at O
 by_cases e:v=Ak l
 subst e
 exact⟨i,r,hi,J,Ad,λag=>absurd ag U,λ_=>⟨l,AG,rfl⟩⟩
 rw[zo e]at O
 obtain⟨j,s,H,V,Z,aa,ab⟩:=h.seen v O
 exact⟨j,s,H,V,Z,aa,λag=>let⟨x,u,ae⟩:=ab ag;⟨x,yp _ u,ae⟩⟩
 show P.many=_
 rw[h.many]
 congr 2
 apply acj
 intro b ay
 obtain⟨j,H⟩:=z0 ay
 unfold Br
 by_cases e:Ak b.lit=Ak l
 have aj:=Dk T hi H (J.trans e.symm)
 simp_all
 show _=(DG P (Ak l) true (Ak b.lit)&&_)
 unfold DG
 rw[zo e]
def Ld{R}(E:(R.map λr=>Ak r.lit).Nodup){d but}(H:∀r∈R,r.level<=d){n}:∀c P,Gy R d n P->(∀l∈c,Ak l≠but->Wh R d n l)->Gy R d n (CH R d but P c)/\(∀x,x∈P.lits\/x∈DI R d P->x∈(CH R d but P c).lits\/x∈DI R d (CH R d but P c))/\∀l∈c,Ak l≠but->AR R (Ak l)<=0\/l∈(CH R d but P c).lits\/l∈DI R d (CH R d but P c)
 |[],P,h,_=>⟨h,λ_ u=>u,λl T=>by cases T⟩
 |l::c,P,h,J=>by obtain⟨U,V,Z⟩:=Aaz E H h (J l AG);obtain⟨aa,O,ab⟩:=Ld E H c (Eu R d but P l) U (λx u=>J x (yj _ u));refine⟨aa,λx u=>O x (V x u),λx u hb=>?_⟩;rcases xl.1 u with e|u;subst e;rcases Z hb with h|h;exact .inl h;exact .inr (O x h);exact ab x u hb
structure Bq(R:List AH)(cl)(d):Prop where
 aj:(R.map λr=>Ak r.lit).Nodup
 aE:Good (Az R)
 sorted:R.Pairwise λa b=>a.level<=b.level
 low:∀r∈R,0<=r.level/\r.level<=d
 aY:Sm R cl
 zero:∀r∈R,r.level=0->0<=r.reason
 first:∀(i j:Nat)(r s),R[i]? =some r->R[j]? =some s->r.reason<0->s.level=r.level->i<=j
def Bq.le{R cl d}(h:Bq R cl d){i j:Nat}{r s}(hi:R[i]? =some r)(u:R[j]? =some s)(E:i<j):r.level<=s.level:=by obtain⟨H,J⟩:=zl.1 hi;obtain⟨O,T⟩:=zl.1 u;have:=xo.1 h.sorted i j H O E;rw[J,T]at this;omega
def Bq.eN{R cl d}(h:Bq R cl d):∀(n i:Nat)(r),i<n->R[i]? =some r->r.level=0->FU R cl [] (-r.lit):=by
 intro n;induction n with
 |zero=>omega
 |succ n J=> intro i r hi u H;obtain⟨c,O,y,T,_,_,U⟩:=h.aY i r u (h.zero r (zm u) H);have e:=Co u;rw[T]at e;cases e;refine .why u Ad (h.zero r (zm u) H) O λx V ac=>?_;obtain⟨j,Z,aa⟩:=U x V Ad;obtain⟨s,E,ab⟩:=EU aa;have ad:=h.le E u Z;have ae:=(h.low s (zm E)).1;have:=J j s Ad E Ad;rwa[ab,aaa]at this
def Bq.c8{R cl d}(h:Bq R cl d){x}{i:Nat}{r}(hi:R[i]? =some r)(e:r.lit=-x)(E:AR R (Ak x)<=0):FU R cl [] x:=by have u:=(Dx h.aj hi).1;rw[e,Bk]at u;have H:=(h.low r (zm hi)).1;have:=h.eN (i+1) i r Ad hi Ad;rwa[e,aaa]at this
def Abw{R}(O:(R.map λr=>Ak r.lit).Nodup){d n P}(h:Gy R d (n+1) P){r}(T:R[n]? =some r)(ab:r.level=d)(af:P.seen (Ak r.lit)=true):Gy R d n ⟨DG P (Ak r.lit) false,P.lits,P.many-1⟩:=by
 refine⟨λx ac=>?_,h.vars,λv ad=>?_,?_⟩;obtain⟨j,s,H,J,U,V,Z⟩:=h.lits x ac;refine⟨j,s,H,J,U,V,?_⟩;show DG P _ _ _=true;unfold DG;rw[zo,Z];intro e;have:=Dk O H T (by rw[J,Bk,e]);simp_all;have E:DG P (Ak r.lit) false v=true:=ad;unfold DG at E;by_cases e:v=Ak r.lit;rw[zq e]at E;simp_all;rw[zo e]at E;obtain⟨j,s,H,J,U,V,Z⟩:=h.seen v E;grind;show P.many-1=_;have aa:=Qp O T ab (zg:=DG P (Ak r.lit) false) (by unfold DG;rw[zq rfl]);have e:(λu=>if u=Ak r.lit then true else DG P (Ak r.lit) false u)=P.seen:=by funext u;unfold DG;simp_all
 rw[e]at aa;have ae:=h.many;rw[aa]at ae;simp_all
def JC(R:List AH)(cl:Int->Option An)(d:Int)(zi:An)(P:Ex):Prop:=∀x∈zi,FU R cl (P.lits++DI R d P) x
def OC{R cl d}(u:Bq R cl d){zi n P}(h:Gy R d (n+1) P)(ag:JC R cl d zi P){r}(E:R[n]? =some r)(ah:r.level=d)(J:P.seen (Ak r.lit)=true)(V:0<=r.reason):Gy R d n (CH R d (Ak r.lit) ⟨DG P (Ak r.lit) false,P.lits,P.many-1⟩ ((cl r.reason).getD []))/\JC R cl d zi (CH R d (Ak r.lit) ⟨DG P (Ak r.lit) false,P.lits,P.many-1⟩ ((cl r.reason).getD [])):=by
 have aj:=Abw u.aj h E ah J;obtain⟨c,Z,y,ak,_,_,aw⟩:=u.aY n r E V;have e:=Co E;rw[ak]at e;cases e;rw[Z,Option.getD_some];have aa:∀x∈c,x≠r.lit->∃(j:Nat)(s:AH),j<n/\R[j]? =some s/\s.lit=-x:=λx T al=>by grind[EU]
 obtain⟨am,ab,an⟩:=Ld u.aj (but:=Ak r.lit) (λs J=>(u.low s J).2) c _ aj (λx T hb=>by obtain⟨j,s,H,J,U⟩:=aa x T (λe=>hb (by rw[e]));exact⟨j,s,J,U,λ_=>H⟩);refine⟨am,λx T=>(ag x T).trans λz O=>?_⟩;rcases zz.1 O with O|O;exact .keep (zz.2 (ab z (.inl O)));obtain⟨j,s,H,U,ao,aq⟩:=GP.1 O;by_cases ac:j=n;subst ac;rw[E]at H;cases H;refine .why E Ad V Z λw ad al=>?_;have au:w≠r.lit:=Ad;obtain⟨k,t,ax,ae,af⟩:=aa w ad au;have av:Ak w≠Ak r.lit:=λe=>by have:=Dk u.aj ae E (by rw[af,Bk,e]);omega
 rcases an w ad av with h|h;exact(u.c8 ae af h).mono AG;exact .keep (zz.2 h);refine .keep (zz.2 (ab z (.inr (GP.2 ⟨j,s,H,U,ao,?_⟩))));show DG P _ _ _=true;unfold DG;rw[zo,aq];intro e;exact ac (Dk u.aj H E e)
def filter_one{R:List AH}(J:(R.map λr=>Ak r.lit).Nodup){p r}(h:∀s∈R,p s=true->s=r):(R.filter p).length<=1:=by
 have O:R.Nodup:=(x2.1 J).imp λT e=>T (by rw[e]);have E:(R.filter p).Nodup:=O.filter p;have u:=λs H=>h s (ye.1 H).1 (ye.1 H).2;match U:R.filter p with
 |[]=>simp
 |[a]=>simp
 |a::b::t=> rw[U]at E u;have V:=u a AG;have Z:=u b AG;rw[xx]at E;simp_all
def KR{R cl d}(u:Bq R cl d){zi}:∀n P,Gy R d n P->JC R cl d zi P->(∃m,Gy R d m (DS R cl d n P))/\JC R cl d zi (DS R cl d n P)/\(DS R cl d n P).many<=1/\(1<=P.many->1<=(DS R cl d n P).many)
 |0,P,h,J=>by
  refine⟨⟨0,h⟩,J,?_,λh=>h⟩;show P.many<=1;have:R.filter (Br d P.seen)=[]:=by rw[aas];intro r O E;simp only[Br,z4,z8]at E;obtain⟨i,s,hi,aj,_,aA,_⟩:=h.seen _ E.1;obtain⟨j,H⟩:=z0 O;have:=Dk u.aj hi H aj;simp_all
  rw[h.many,this];decide
 |n+1,P,h,J=>by
  unfold DS;by_cases T:P.many<=1;rw[zq T];grind;rw[zo T];cases O:R[n]? with
  |none=> show _/\_;refine KR u n P ⟨h.lits,h.vars,λv U=>?_,h.many⟩ J;obtain⟨j,s,H,ad,ae,af,ag⟩:=h.seen v U;grind
  |some r=>
   simp only[];by_cases E:Br d P.seen r=true/\0<=r.reason;rw[zq E];have V:=E.1;simp only[Br,z4,z8]at V;obtain⟨ak,al⟩:=OC u h J O V.2 V.1 E.2;obtain⟨am,Z,an,ao⟩:=KR u n _ ak al;refine⟨am,Z,an,λ_=>ao ?_⟩;have aq:∀c Q,Q.many<=(CH R d (Ak r.lit) Q c).many:=by
    intro c;induction c with
    |nil=>intro Q;exact aat _
    |cons x c au=> intro Q;refine Int.le_trans ?_ (au (Eu R d (Ak r.lit) Q x));unfold Eu;grind
   have:=aq ((cl r.reason).getD []) ⟨DG P (Ak r.lit) false,P.lits,P.many-1⟩;have e:(⟨DG P (Ak r.lit) false,P.lits,P.many-1⟩:Ex).many=P.many-1:=rfl;omega;rw[zo E];refine KR u n P ⟨h.lits,h.vars,λv U=>?_,h.many⟩ J;obtain⟨j,s,H,ad,ae,af,ag⟩:=h.seen v U;refine⟨j,s,H,ad,ae,λav=>?_,ag⟩;have aB:=af av;rcases aab j n with ah|ah;exact ah;have:j=n:=Ad;subst this;rw[O]at H;cases H;exfalso;have aC:Br d P.seen r=true:=by grind[Br]
   have aw:r.reason<0:=by simp_all
   apply T;rw[h.many];have:=filter_one u.aj (p:=Br d P.seen) (r:=r) λt ax aa=>by simp only[Br,z4,z8]at aa;obtain⟨k,ab⟩:=z0 ax;obtain⟨Z,t2,ac,ay,_,az,_⟩:=h.seen _ aa.1;have:=Dk u.aj ac ab ay;subst this;rw[ac]at ab;cases ab;have aD:=az aa.2;have aE:=u.first j Z r t O ac aw Ad;grind
   omega
def Kr(R:List AH)(cl:Int->Option An)(d:Int)(zi:An):Ex:=DS R cl d R.length (CH R d 0 ⟨λ_=>false,[],0⟩ zi)
def IY(R:List AH)(cl:Int->Option An)(d:Int)(zi:An):An:=(Kr R cl d zi).lits++DI R d (Kr R cl d zi)
structure AbI(R:List AH)(cl)(d)(zi full:An):Prop where
 bw:∀x∈full,∃(i:Nat)(r:AH),R[i]? =some r/\r.lit=-x/\1<=r.level
 vars:(full.map Ak).Nodup
 cK:∀x∈zi,FU R cl full x
 one:1<=d->(∃x∈zi,AR R (Ak x)=d)->∃y∈full,AR R (Ak y)=d/\∀x∈full,x≠y->AR R (Ak x)<d
def Qy(R d n):Gy R d n ⟨λ_=>false,[],0⟩:=by refine⟨λx u=>(by cases u),ab8,λv E=>(by cases E),?_⟩;grind[Br,List.filter_eq_nil_iff]
def Jq{R cl d}(E:Bq R cl d){zi}(O:∀x∈zi,Ak x≠0/\∃(i:Nat)(r:AH),R[i]? =some r/\r.lit=-x):AbI R cl d zi (IY R cl d zi):=by
 obtain⟨T,_,ab⟩:=Ld E.aj (but:=0) (λs ad=>(E.low s ad).2) zi _ (Qy R d R.length) (λx u _=>by obtain⟨i,r,hi,e⟩:=(O x u).2;exact⟨i,r,hi,e,λ_=>(zl.1 hi).1⟩);have ae:JC R cl d zi (CH R d 0 ⟨λ_=>false,[],0⟩ zi):=λx u=>by obtain⟨U,i,r,hi,e⟩:=O x u;rcases ab x u U with h|h;exact(E.c8 hi e h).mono AG;exact .keep (zz.2 h)
 obtain⟨⟨m,J⟩,af,an,ag⟩:=KR E R.length _ T ae;have ao:∀x∈(Kr R cl d zi).lits,AR R (Ak x)<d:=λx u=>by obtain⟨i,r,hi,e,_,H,_⟩:=J.lits x u;have:=(Dx E.aj hi).1;rw[e,Bk]at this;omega
 have ah:∀x∈DI R d (Kr R cl d zi),AR R (Ak x)=d:=λx u=>by obtain⟨i,r,hi,e,H,_⟩:=GP.1 u;have:=(Dx E.aj hi).1;rw[<-e,Bk,this,H]
 refine⟨λx u=>?_,?_,af,λaq⟨x,u,au⟩=>?_⟩;rcases zz.1 u with u|u;obtain⟨i,r,hi,e,V,_⟩:=J.lits x u;exact⟨i,r,hi,e,V⟩;obtain⟨i,r,hi,e,V,H⟩:=GP.1 u;obtain⟨j,s,Z,aj,ak,_⟩:=J.seen _ H;have:=Dk E.aj Z hi aj;subst this;rw[hi]at Z;cases Z;exact⟨_,r,hi,Ad,ak⟩;unfold IY;rw[yo,y2];refine⟨J.vars,?_,λa av b hb e=>?_⟩;unfold DI;rw[ac5];have e:((λx=>Ak x)∘λr:AH=>-r.lit)=λr:AH=>Ak r.lit:=by funext r;exact Bk r.lit
 have e':=e;rw[e'];exact E.aj.sublist (ad7 _ xw);grind;have U:=(O x u).1;have al:x∈DI R d (CH R d 0 ⟨λ_=>false,[],0⟩ zi):=by rcases ab x u U with h|h|h;omega;obtain⟨i,r,hi,e,_,H,_⟩:=T.lits x h;have:=(Dx E.aj hi).1;rw[e,Bk]at this;omega;omega
 have am:1<=(CH R d 0 ⟨λ_=>false,[],0⟩ zi).many:=by rw[T.many];have:0<(DI R d (CH R d 0 ⟨λ_=>false,[],0⟩ zi)).length:=adb al;grind[DI,List.length_map]
 have ac:(DI R d (Kr R cl d zi)).length=1:=by have V:=ag am;have H:=J.many;unfold DI;rw[z2];unfold Kr;omega
 match aa:DI R d (Kr R cl d zi)with
 |[]=>rw[aa]at ac;simp_all
 |[y]=> refine⟨y,by grind[IY],ah y (by rw[aa];simp),λz aw ax=>?_⟩;grind[IY,List.mem_singleton]
 |a::b::t=>rw[aa]at ac;simp_all
def Oz{R}(O:Good (Az R)){out}(E:∀x∈out,-x∈Az R):Dc out=0:=by
 have aa:G6 out=false:=by unfold G6;rw[xm];intro x H;have:=O.1 _ (E x H);rw[Bk]at this;simp_all
 have ab:EG out=false:=by
  cases J:EG out with
  |false=>rfl
  |true=>
   exfalso;unfold EG at J;rw[y7]at J;obtain⟨x,H,u⟩:=J;unfold Jj at u;rw[z4]at u;have U:=(RU u.1).2.2;have V:-x∈out:=by have:=u.2;rw[U]at this;unfold Fu at this;rw[z4]at this;grind[CD]
   have Z:=E x H;have T:=E _ V;rw[aaa]at T;exact O.neg Z T
 grind[Dc]
def Xf{R cl d}(u:Bq R cl d){out zi M}(E:∀x∈out,-x∈Az R)(H:Jf R cl out M) (J:∀x∈zi,x∈out\/∃(j:Nat)(s:AH),M j=true/\R[j]? =some s/\s.lit=-x):F8 out ((EP R M).map (Io R cl)++[zi])=0:=(T6 u.aE u.aY E H J).show (Oz u.aE E)
def FU.next{R cl stop x}(h:FU R cl stop x)(u:x∉stop):∃(i:Nat)(r:AH)(c:An),R[i]? =some r/\r.lit=-x/\0<=r.reason/\cl r.reason=some c/\∀y∈c,y≠-x->FU R cl stop y:=by
 cases h with
 |keep h=>simp_all
 |why E H J O T=>grind
def Ip{R}(h:(R.map λr=>Ak r.lit).Nodup){i:Nat}{a}(hi:R[i]? =some a):BH R (Ak a.lit)=(i:Int):=by
 unfold BH CM;cases e:R.findIdx? (isVar (Ak a.lit))with
 |none=> rw[yz]at e;have:=e a (zm hi);have u:isVar (Ak a.lit) a=true:=beq_self_eq_true (Ak a.lit);rw[u]at this;simp_all
 |some k=> rw[yq]at e;obtain⟨E,H,_⟩:=e;have J:=zr E;have:=Dk h J hi (eq_of_beq H);simp_all
def Et(R:List AH)(cl:Int->Option An)(l:Int):Option An:=if 0<=CJ R l\/D4 R (Ak l)<0 then none else match cl (D4 R (Ak l))with
 |some c=>if Bd c (-l)then some (c.filter λx=>!(decide (x=-l)||decide (AR R (Ak x)=0)))else none
 |none=>none
def GB(R:List AH)(cl:Int->Option An)(zd:An):Nat->Int->Int->Bool
 |0,_,_=>false
 |n+1,u,l=>if BH R (Ak l)<0\/u<=BH R (Ak l)then false else match Et R cl l with
  |some rest=>rest.all λx=>(decide (x≠l)&&Bd zd x&&decide (BH R (Ak x)<BH R (Ak l)))||GB R cl zd n (BH R (Ak l)) x
  |none=>false
theorem Mf{R cl zd}:∀(n m:Nat)(b c l),BH R (Ak l)<n->BH R (Ak l)<m->BH R (Ak l)<b->BH R (Ak l)<c->GB R cl zd n b l=GB R cl zd m c l
 |0,0,_,_,_,_,_,_,_=>rfl
 |0,m+1,b,c,l,H,_,_,_=>by unfold GB;rw[zq (.inl Ad)]
 |n+1,0,b,c,l,_,J,_,_=>by unfold GB;rw[zq (.inl Ad)]
 |n+1,m+1,b,c,l,H,J,O,T=>by
  unfold GB;by_cases u:BH R (Ak l)<0;rw[zq (.inl u),zq (.inl u)];rw[zo Ad,zo Ad];cases Et R cl l with
  |none=>rfl
  |some rest=>
   simp only[];have key:∀x,GB R cl zd n (BH R (Ak l)) x=GB R cl zd m (BH R (Ak l)) x:=λx=>by by_cases E:BH R (Ak x)<BH R (Ak l);exact Mf n m _ _ x Ad Ad E E;cases n<;>cases m<;>simp only[GB]<;>(try rw[zq (.inr Ad)])<;>(simp_all)
   congr 1;funext x;rw[key x]
def BP(R:List AH)(cl:Int->Option An)(zd:An)(l:Int):Bool:=GB R cl zd (R.length+1) R.length l
def D9(R:List AH)(cl:Int->Option An):An->An
 |[]=>[]
 |x::t=>x::t.filter λl=>!BP R cl (x::t) l
def Abl{R cl d}(E:Bq R cl d){zd i r}(hi:R[i]? =some r)(u:BP R cl zd (-r.lit)=true):0<=r.reason/\∃c,cl r.reason=some c/\∀y∈c,y≠r.lit->FU R cl [] y\/((y∈zd\/BP R cl zd y=true)/\∃(j:Nat)(s:AH),j<i/\R[j]? =some s/\s.lit=-y):=by have Z:=Ip E.aj hi;have aa:=Dx E.aj hi;have ah:=(zl.1 hi).1;unfold BP GB at u;rw[Bk,Z,zo Ad]at u;unfold Et at u;rw[Bk,aa.2]at u;by_cases O:0<=CJ R (-r.lit)\/r.reason<0;rw[zq O]at u;cases u;rw[zo O]at u;have T:0<=r.reason:=Ad;obtain⟨c,U,aj,ab,_,_,ac⟩:=E.aY i r hi T;have e:=Co hi;rw[ab]at e;cases e;rw[U]at u;simp only[aaa]at u;refine⟨T,c,U,λy V ad=>?_⟩;obtain⟨j,ae,af⟩:=ac y V ad;obtain⟨s,H,J⟩:=EU af;by_cases ak:AR R (Ak y)=0;exact .inl (E.c8 H J Ad);refine .inr ⟨?_,j,s,ae,H,J⟩;by_cases hb:Bd c r.lit=true;rw[zq hb]at u;simp only[yn]at u;have:=u y (ye.2 ⟨V,by simp_all⟩);rw[abg]at this;rcases this with h|h;simp only[z4]at h;grind[CD];refine .inr ?_;have ag:=Ip E.aj H;rw[J,Bk]at ag;grind[BP,Mf];simp_all
def X0{R cl d}(E:Bq R cl d){zd}(H:∀x∈zd,∃(i:Nat)(r:AH),R[i]? =some r/\r.lit=-x):∀x∈zd,FU R cl (D9 R cl zd) x:=by
 intro x u;obtain⟨i,r,hi,e⟩:=H x u;have:=VL (R:=R) (cl:=cl) (zd:=zd) (out:=D9 R cl zd) (λl=>BP R cl zd l=true) (λi r hi J=>Abl E hi J) (λx u=>by
  cases zd with
  |nil=>cases u
  |cons a t=> grind[D9,BP,List.mem_cons_of_mem]) (i+1) i r Ad hi (.inl (by rw[e,aaa];exact u))
 rwa[e,aaa]at this
def Lx{R cl zd}:(D9 R cl zd).Sublist zd:=by
 cases zd with
 |nil=>exact List.Sublist.refl _
 |cons a t=>exact List.Sublist.cons_cons a xw
def JU(R r):Az (R++[r])=Az R++[r.lit]:=by grind[Az]
def F9.app{u i c}(h:F9 u i c)(H):F9 (u++H) i c:=by
 obtain⟨y,J,O,T,U⟩:=h;have up:∀{j}{z},u[j]? =some z->(u++H)[j]? =some z:=λ{j z}E=>by rw[yh (zl.1 E).1];exact E
 exact⟨y,up J,O,T,λx V Z=>let⟨j,E,aa⟩:=U x V Z;⟨j,E,up aa⟩⟩
def F9.take{u i k c}(h:F9 u i c)(E:i<k):F9 (u.take k) i c:=by obtain⟨y,H,J,O,T⟩:=h;exact⟨y,by rw[xa E];exact H,J,O,λx U V=>let⟨j,Z,aa⟩:=T x U V;⟨j,Z,by rw[xa Ad];exact aa⟩⟩
def Aaa{E}(h:Good E){l}(H:Ak l≠0)(J:∀x∈E,Ak x≠Ak l):Good (E++[l]):=by refine⟨λx u=>?_,?_⟩;rcases zz.1 u with u|u;exact h.1 x u;simp_all;rw[yo,y2];refine⟨h.2,AG,λa O b hb=>?_⟩;grind
def Bq.snoc{R cl d l lv rs}(h:Bq R cl d)(ae:0<=d)(T:Ak l≠0)(af:∀r∈R,Ak r.lit≠Ak l)(ag:d<=lv)(ah:lv=0->0<=rs) (U:0<=rs->∃c,cl rs=some c/\l∈c/\c.Nodup/\∀x∈c,x≠l->-x∈Az R)(aj:rs<0->∀r∈R,r.level≠lv):Bq (R++[⟨l,lv,rs⟩]) cl lv:=by
 have split:∀{i}{r},(R++[(⟨l,lv,rs⟩:AH)])[i]? =some r->R[i]? =some r\/(i=R.length/\r=⟨l,lv,rs⟩):=λ{i r}hi=>by grind
 refine⟨?_,?_,?_,λr u=>?_,λi r hi E=>?_,λr u E=>?_,λi j r s hi J V Z=>?_⟩;rw[yo,y2];refine⟨h.aj,AG,λa H b hb=>?_⟩;grind;rw[JU];refine Aaa h.aE T λx aa=>?_;grind[Az];rw[ab4];refine⟨h.sorted,AG,λa H b hb=>?_⟩;rw[zy.1 hb];have:=(h.low a H).2;grind;rcases zz.1 u with u|u;have:=h.low r u;omega;grind;rw[JU];rcases split hi with hi|⟨rfl,rfl⟩;obtain⟨c,O,H⟩:=h.aY i r hi E;exact⟨c,O,H.app _⟩;obtain⟨c,O,ab,ac,ak⟩:=U E;have ad:(Az R).length=R.length:=by unfold Az;rw[z2]
 refine⟨c,O,l,by rw[<-ad];simp,ab,ac,λx aa al=>?_⟩;grind[List.getElem?_of_mem,List.getElem?_eq_some_iff,List.getElem?_append_left];rcases zz.1 u with u|u;exact h.zero r u E;simp_all;rcases split hi with hi|⟨rfl,rfl⟩;rcases split J with J|⟨rfl,rfl⟩;exact h.first i j r s hi J V Z;grind;grind
def Bq.take{R cl d d'}(h:Bq R cl d)(k)(H:∀r∈R.take k,r.level<=d'):Bq (R.take k) cl d':=by
 have sub:∀{r},r∈R.take k->r∈R:=λu=>xh u;have get:∀{i}{r},(R.take k)[i]? =some r->R[i]? =some r/\i<k:=λ{i r}hi=>by have hb:=(zl.1 hi).1;rw[ya]at hb;grind
 have E:Az (R.take k)=(Az R).take k:=by unfold Az;rw[ad3]
 refine⟨?_,?_,h.sorted.sublist (ab3 _ _),λr u=>⟨(h.low r (sub u)).1,H r u⟩,λi r hi J=>?_,λr u=>h.zero r (sub u),λi j r s hi O=>h.first i j r s (get hi).1 (get O).1⟩;rw[ad3];exact h.aj.sublist (ab3 _ _);rw[E];exact⟨λx T=>h.aE.1 x (xh T),by rw[ad3];exact h.aE.2.sublist (ab3 _ _)⟩;obtain⟨c,U,V⟩:=h.aY i r (get hi).1 J;exact⟨c,U,by rw[E];exact V.take (get hi).2⟩
def Ts{R}(u:R.Pairwise λa b=>a.level<=b.level)(lv):Bp R lv=R.take (Bp R lv).length:=by
 unfold Bp;induction R with
 |nil=>rfl
 |cons r R E=> rw[abv]at u;grind[List.filter_cons_of_pos,List.length_cons,List.filter_eq_nil_iff]
def Bq.back{R cl d}(h:Bq R cl d)(lv){d'}(u:∀r∈Bp R lv,r.level<=d'):Bq (Bp R lv) cl d':=by have e:=Ts h.sorted lv;rw[e]at u⊢;exact h.take _ u
def Bq.clauses{R cl u d}(h:Bq R cl d)(H:∀r∈R,0<=r.reason->u r.reason=cl r.reason):Bq R u d:=⟨h.aj,h.aE,h.sorted,h.low,λi r hi E=>by rw[H r (zm hi) E];exact h.aY i r hi E,h.zero,h.first⟩
def Fo(u:Array Value)(zb:Nat)(zc:List AH):Prop:=u.size=(zb+1)*4/\∀v k,v<=zb->k<4->u[v*4+k]? =some (.int .i64 (BM zc v k))
structure Bm(w)(za p gm)(lv bv)(zb)(zc)(bs):Prop where
 J:Aq w p 238 #[.slice (some ⟨gm,0,none⟩) (zb+1) (zb+1),lv,bv,.bool true]
 ch:∃cs,Aq w gm 331 cs/\Fo cs zb zc
 lits:Ay w za lv (Az zc)
 be:Ay w za bv bs
 ap:DA lv bv
 bp:za<=p
 cS:za<=gm
 ok:∀r∈zc,AV r.lit zb=0
 bh:zc.length<=1000000000
 cQ:bs.length<=1000000000
 bk:∀x∈bs,0<=x/\x<=1000000000
 aA:zb<=100000
def Cd(zc):(Az zc).length=zc.length:=by simp[Az]
def JA{zc zb}(h:∀r∈zc,AV r.lit zb=0):∀x∈Az zc,-9223372036854775808<=x/\x<=Bh:=by intro x u;obtain⟨r,E,rfl⟩:=zw.1 u;have:=AU (h r E);omega
section
variable{w w':World}{za p gm:Nat}{lv bv:Value}{zb:Nat}{zc:List AH}{bs:List Int}
theorem Bm.ext(h:Bm w za p gm lv bv zb zc bs)(u:Ae w w'):Bm w' za p gm lv bv zb zc bs:=⟨h.J.ext u,let⟨E,a,b⟩:=h.ch;⟨E,a.ext u,b⟩,h.lits.ext u,h.be.ext u,h.ap,h.bp,h.cS,h.ok,h.bh,h.cQ,h.bk,h.aA⟩
theorem Bm.cV(h:Bm w za p gm lv bv zb zc bs):∃A n c,lv=.slice A n c/\AB w A n (Az zc)/\n<=c/\n=zc.length:=by obtain⟨A,n,c,e,u,E⟩:=h.lits.aQ (by rw[Cd];have:=h.bh;omega) (JA h.ok);exact⟨A,n,c,e,u,E,by rw[<-Cd];exact u.1.symm⟩
theorem Bm.di(h:Bm w za p gm lv bv zb zc bs):∃A n c,bv=.slice A n c/\AB w A n bs/\n<=c/\n=bs.length:=by obtain⟨A,n,c,e,u,E⟩:=h.be.aQ (by have:=h.cQ;omega) (λx H=>by have:=h.bk x H;omega);exact⟨A,n,c,e,u,E,u.1.symm⟩
theorem Bm.mark(h:Bm w za p gm lv bv zb zc bs)(v k)(u:v<=zb)(E:k<4):w.cell? ⟨gm,v*4+k,none⟩=some (.int .i64 (BM zc v k)):=by obtain⟨H,a,b⟩:=h.ch;rw[a.cell];exact b.2 v k u E
end
def G7(p w)(h:w.cell? ⟨p,3,none⟩=some (.bool true)):Calls prog 255 #[.pointer (some ⟨p,0,none⟩)] w λe w'=>e=.returned (.bool true)/\w=w':=by go_enter func255,ntmps255;go_wp2;go_ret;exact⟨rfl,rfl⟩
def Aig{zc v}:BM zc v 0=0↔¬0<=BH zc v:=by
 rw[Hn];constructor;intro h r u E;cases e:DC zc v with
 |none=>exact IT.1 e r u E
 |some x=> simp only[BM,e]at h;split at h<;>cases h
 intro h;exact J3 h 0
def Acb(zc zb d l):Df ⟨zb,zc,d⟩ l=if AV l zb≠0 then 10 else if BM zc (Ak l) 0≠0 then 21 else 0:=by unfold Df;dsimp only;have:=Aig (zc:=zc) (v:=Ak l);by_cases u:AV l zb≠0;rw[zq u,zq u];rw[zo u,zo u];by_cases E:BM zc (Ak l) 0=0;rw[zo (this.1 E),zo Ad];rw[zq Ad,zq E]
def LJ(w za p gm lv bv zb zc bs d l)(h:Bm w za p gm lv bv zb zc bs):Calls prog 242 #[.pointer (some ⟨p,0,none⟩),.int .i64 l] w λe w'=>e=.returned (.int .i64 (Df ⟨zb,zc,d⟩ l))/\Ae w w':=by
 have V:=Acb zc zb d l;have T:=zk V;have al:=h.J.cell 0;have U:=h.J.cell 3;have am:=h.aA;by_cases u:AV l zb=0
 . obtain⟨Z,aa,ab,ac,ad,ae⟩:=AU u;obtain⟨j,H⟩:=y1 (show 0<=Ak l by omega);have af:j<=zb:=by omega
   have ag:w.cell? ⟨gm,j*4,none⟩=some (.int .i64 (BM zc j 0)):=h.mark j 0 af Ax;have ah:(AV l zb !=0)=false:=by simp[u]
   have an:(0:Int)<=(j:Int):=Ad;have ao:(j:Int)<(zb:Int)+1:=Ad;have q:∀m,AC 141 #[l] (w.drewN m) λe w'=>e=.returned j/\w.drewN m=w':=λm=>(BF l _).mono λe w'⟨aj,ak⟩=>⟨by rw[aj,H],ak⟩;have J:Df ⟨zb,zc,d⟩ l=if BM zc j 0≠0 then 21 else 0:=by rw[T.out,zo (by simp[u]),H]
   generalize BM zc j 0=z at ag J;have E:=zk J;have aq:=zk u;clear H u Z aa ab ac ad ae J;by_cases O:z=0;focus subst O
   rotate_left;focus
    have au:(z !=0)=true:=by simpa using O
    skip
   all_goals
    go_enter func242,ntmps242;go_wp2_with(first
     |(go_at_call 255;refine(G7 _ _ U).mono ?_;rintro e w'⟨rfl,rfl⟩)
     |(go_at_call 210;refine(Hg _ _ _).mono ?_;rintro e w'⟨rfl,rfl⟩))
    go_quiet((go_at_call 141;with_reducible exact QB (q _)));go_wp2;go_ret
   exact⟨Bn (by rw[E.out,zq O]),(Ae.refl _).drewN _⟩;exact⟨Bn (by rw[E.out];rfl),(Ae.refl _).drewN _⟩
 have ah:(AV l zb !=0)=true:=by simpa using u
 have E:Hid (Df ⟨zb,zc,d⟩ l=10):=by unfold Hid;rw[T.out,zq u]
 clear u;go_enter func242,ntmps242;go_wp2_with(first
  |(go_at_call 255;refine(G7 _ _ U).mono ?_;rintro e w'⟨rfl,rfl⟩)
  |(go_at_call 210;refine(Hg _ _ _).mono ?_;rintro e w'⟨rfl,rfl⟩))
 go_ret;exact⟨Bn E.symm,Ae.refl _⟩
def find_congr{u:Type}{p q}:∀{l:List u},(∀x∈l,p x=q x)->l.find? p=l.find? q
 |[],_=>rfl
 |x::l,h=>by rw[List.find?_cons,List.find?_cons,h x (yx ..),find_congr (l:=l) λy E=>h y (yj _ E)]
def AfS{zc zb}(E:∀r∈zc,AV r.lit zb=0)(l):CJ zc l=if AV l zb≠0 then 0 else if l<0 then-BM zc (Ak l) 0 else BM zc (Ak l) 0:=by
 by_cases h:AV l zb=0;rw[zo (by simp[h])];have e:zc.find? (JO l)=DC zc (Ak l):=find_congr λr H=>by have O:=AU (E r H);have U:=AU h;unfold JO isVar;rw[acb];simp only[abg,x3];omega
 unfold CJ;rw[e];cases J:DC zc (Ak l)with
 |none=>simp[BM,J]
 |some r=>
  have aa:Ak r.lit=Ak l:=by have:=aa3 J;simpa[isVar]using this
  have O:=AU (E r (y0 J));have U:=AU h;simp only[BM,J];by_cases T:r.lit=l;rw[zq T,T];by_cases u:l<0;rw[zq u,zq u];rfl;rw[zo u,zo u];rw[zo T];by_cases u:l<0;rw[zq u,zo Ad];rw[zo u,zq Ad]
 rw[zq h];have e:zc.find? (JO l)=none:=by rw[y6];intro r H V;have O:=AU (E r H);simp only[JO,abg,x3]at V;have Z:=E r H;revert h O Z;unfold AV Ak;(repeat(first|omega|split))
 unfold CJ;rw[e]
def FW(w za p O lv Z zb zc aa l)(h:Bm w za p O lv Z zb zc aa)(am:-9223372036854775808<=l)(an:l<=9223372036854775807):Calls prog 167 #[.pointer (some ⟨p,0,none⟩),.int .i64 l] w λe w'=>e=.returned (CJ zc l)/\Ae w w':=by
 have ab:=AfS (zb:=zb) h.ok l;have T:=zk ab;have ao:=h.J.cell 0;have U:=h.J.cell 3;have aq:=h.aA;by_cases u:AV l zb=0
 . obtain⟨ac,ad,ae,au,av,af⟩:=AU u;obtain⟨j,E⟩:=y1 (show 0<=Ak l by omega);have ag:j<=zb:=Ad;have ah:w.cell? ⟨O,j*4,none⟩=some (BM zc j 0):=h.mark j 0 ag Ax;have aj:(AV l zb !=0)=false:=by simp[u]
   have aw:(0:Int)<=(j:Int):=by omega
   have ax:(j:Int)<(zb:Int)+1:=by omega
   have q:∀m,Calls prog 141 #[.int .i64 l] (w.drewN m) λe w'=>e=.returned (.int .i64 (j:Int))/\w.drewN m=w':=λm=>(BF l _).mono λe w'⟨ak,al⟩=>⟨by rw[ak,E],al⟩;have H:CJ zc l=if l<0 then-BM zc j 0 else BM zc j 0:=by rw[T.out,zo (by simp[u]),E]
   have V:-1<=BM zc j 0/\BM zc j 0<=1:=by
    cases e:DC zc j with
    |none=>simp[BM,e]
    |some x=>simp only[BM,e];split<;>omega
   generalize BM zc j 0=z at ah H V;obtain⟨ay,az⟩:=V;have J:=zk H;clear E u ac ad ae af H;by_cases aA:l<0;all_goals
    go_enter func167,ntmps167;go_wp2_with(first
     |(go_at_call 255;refine(G7 _ _ U).mono ?_;rintro e w'⟨rfl,rfl⟩)
     |(go_at_call 210;refine(Hg _ _ _).mono ?_;rintro e w'⟨rfl,rfl⟩))
    go_quiet((go_at_call 141;with_reducible exact QB (q _)));go_wp2;go_ret;exact⟨Bn (by rw[J.out];first|rw[zq Ad]|rw[zo Ad]),(Ae.refl _).drewN _⟩
 have aj:(AV l zb !=0)=true:=by simpa using u
 have J:Hid (CJ zc l=0):=by unfold Hid;rw[T.out,zq u]
 clear u;go_enter func167,ntmps167;go_wp2_with(first
  |(go_at_call 255;refine(G7 _ _ U).mono ?_;rintro e w'⟨rfl,rfl⟩)
  |(go_at_call 210;refine(Hg _ _ _).mono ?_;rintro e w'⟨rfl,rfl⟩))
 go_ret;exact⟨Bn J.symm,Ae.refl _⟩
def Aio(zc:List AH)(v:Int)(w:Aj)(e:Bz)(w':Aj):Prop:=∃(a:Int)(t:Bool),e=.returned (.tuple #[.agg #[a,(AR zc v),(D4 zc v),(BH zc v)],t])/\Ae w w'
def Xc{zc v}(h:DC zc v=none):AR zc v=-1/\D4 zc v=-1/\BH zc v=-1:=by
 refine⟨by rw[AR,h],by rw[D4,h],?_⟩;have:=Hn.2 (IT.1 h);have u:-1<=BH zc v:=by unfold BH CM;split<;>omega
 omega
def Ah2{zc zb v}(u:∀r∈zc,AV r.lit zb=0)(H:v<1\/zb<v):DC zc v=none:=by rw[IT];intro r E;have:=AU (u r E);omega
def Afz{zc v r}(h:DC zc v=some r):BM zc v 1=AR zc v/\BM zc v 2=D4 zc v/\BM zc v 3=BH zc v/\BM zc v 0≠0:=by simp only[BM,AR,D4,h];refine⟨trivial,trivial,trivial,?_⟩;split<;>omega
def Uh(w:Aj)(za p V:Nat)(lv ad:Aw)(zb:Nat)(zc:List AH)(ae:An)(v:Int)(h:Bm w za p V lv ad zb zc ae):AC 308 #[.pointer p,v] w (Aio zc v w):=by
 have av:=h.J.cell 0;have aw:=h.aA;have d0:=(h.ext ((Ae.refl w).alloc (Obj.cells #[(),(),(),()] 331))).J.cell 0;have d3:=(h.ext ((Ae.refl w).alloc (Obj.cells #[(),(),(),()] 331))).J.cell 3;by_cases O:v<1\/(zb:Int)<v
 . obtain⟨E,H,J⟩:=Xc (Ah2 h.ok O);have u:=zk (And.intro E (And.intro H J));clear E H J;rcases O with O|O;all_goals
    go_enter func308,ntmps308;go_wp2_with fail
    refine(G7 _ _ d3).mono ?_;rintro e w'⟨rfl,rfl⟩;go_wp2;refine yw (v:=.tuple #[.agg #[(),.int .i64 (-1),.int .i64 (-1),.int .i64 (-1)],false]) (by simp[results,results308,go_sem]) rfl ⟨0,false,by rw[u.1,u.2.1,u.2.2],?_⟩;grind
 obtain⟨j,af⟩:=y1 (show 0<=v by omega);subst af;have U:j<=zb:=Ad;have ax:(1:Int)<=(j:Int):=Ad;have ay:(j:Int)<(zb:Int)+1:=Ad;have az:¬((zb:Int)+1<=(j:Int)):=Ad;have Z:(w.alloc (Obj.cells #[(),(),(),()] 331)).cell? ⟨V,j*4,none⟩=some (BM zc j 0):=(h.ext ((Ae.refl w).alloc _)).mark j 0 U Ax;have ag:=(h.ext ((Ae.refl w).alloc (Obj.cells #[(),(),(),()] 331))).mark j 1 U Ax;have ah:=(h.ext ((Ae.refl w).alloc (Obj.cells #[(),(),(),()] 331))).mark j 2 U Ax;have aj:=(h.ext ((Ae.refl w).alloc (Obj.cells #[(),(),(),()] 331))).mark j 3 U Ax;clear O;rcases T:DC zc j with _|r;focus obtain⟨E,H,J⟩:=Xc T;have u:=zk (And.intro E (And.intro H J));have aa:BM zc j 0=0:=J3 (IT.1 T) 0;rw[aa]at Z;clear E H J T aa
 rotate_left;focus
  obtain⟨E,H,J,ab⟩:=Afz T;have u:=zk (And.intro E (And.intro H J));have ak:(BM zc j 0==0)=false:=by simpa using ab
  clear E H J T ab;generalize BM zc j 0=ac at Z ak;generalize al:BM zc j 1=am at ag u;generalize an:BM zc j 2=ao at ah u;generalize aq:BM zc j 3=au at aj u;clear al an aq
 all_goals
  go_enter func308,ntmps308;go_wp2_with fail
  refine(G7 _ _ d3).mono ?_;rintro e w'⟨rfl,rfl⟩;go_wp2
 focus refine yw (v:=.tuple #[.agg #[ac,am,ao,au],true]) (by simp[results,results308,go_sem]) rfl ⟨ac,true,by rw[u.1,u.2.1,u.2.2],?_⟩
 rotate_left;focus refine yw (v:=.tuple #[.agg #[(),.int .i64 (-1),.int .i64 (-1),.int .i64 (-1)],false]) (by simp[results,results308,go_sem]) rfl ⟨0,false,by rw[u.1,u.2.1,u.2.2],?_⟩
 all_goals grind
def GS(w za p u lv E zb zc H v)(h:Bm w za p u lv E zb zc H):Calls prog 238 #[.pointer (some ⟨p,0,none⟩),.int .i64 v] w λe w'=>e=.returned (.int .i64 (AR zc v))/\Ae w w':=by
 go_enter func238,ntmps238;go_wp2_with fail
 refine(Uh _ za p u lv E zb zc H v h).mono ?_;rintro e J⟨a,t,rfl,O⟩;go_wp2;go_ret;exact⟨rfl,by grind⟩
def Hl(w za p u lv E zb zc H v)(h:Bm w za p u lv E zb zc H):Calls prog 237 #[.pointer (some ⟨p,0,none⟩),.int .i64 v] w λe w'=>e=.returned (.int .i64 (D4 zc v))/\Ae w w':=by
 go_enter func237,ntmps237;go_wp2_with fail
 refine(Uh _ za p u lv E zb zc H v h).mono ?_;rintro e J⟨a,t,rfl,O⟩;go_wp2;go_ret;exact⟨rfl,by grind⟩
def NA(w za p u lv E zb zc H v)(h:Bm w za p u lv E zb zc H):Calls prog 306 #[.pointer (some ⟨p,0,none⟩),.int .i64 v] w λe w'=>e=.returned (.int .i64 (BH zc v))/\Ae w w':=by
 go_enter func306,ntmps306;go_wp2_with fail
 refine(Uh _ za p u lv E zb zc H v h).mono ?_;rintro e J⟨a,t,rfl,O⟩;go_wp2;go_ret;exact⟨rfl,by grind⟩
def Lh(w za p H lv J zb zc u)(h:Bm w za p H lv J zb zc u):AC 300 #[.pointer p] w λe w'=>e=.returned (.int .i64 (u.length:Nat))/\Ae w w':=by
 obtain⟨A,n,c,rfl,O,T,E⟩:=h.di;have U:=h.J.cell 2;rw[<-E];clear E;go_enter func300,ntmps300;go_wp2_with(go_at_call 255;refine(G7 _ _ (h.J.cell 3)).mono ?_;rintro e w'⟨rfl,rfl⟩)
 go_ret;exact⟨rfl,Ae.refl _⟩
def TE(w za p E lv H zb zc J)(h:Bm w za p E lv H zb zc J):AC 160 #[.pointer p] w λe w'=>e=.returned (.int .i64 ((zb:Int)-(zc.length:Nat)))/\Ae w w':=by
 obtain⟨A,n,c,rfl,T,U,u⟩:=h.cV;have V:=h.J.cell 0;have Z:=h.J.cell 1;have O:=h.bh;have aa:=h.aA;rw[<-u]at O⊢;clear u;go_enter func160,ntmps160;go_wp2_with(go_at_call 255;refine(G7 _ _ (h.J.cell 3)).mono ?_;rintro e w'⟨rfl,rfl⟩)
 go_quiet(fail);go_wp2;go_ret;exact⟨AG,(Ae.refl _).drewN _⟩
def EY(w za p E lv H zb zc J)(h:Bm w za p E lv H zb zc J):AC 162 #[.pointer p] w (GX (Az zc) w):=by
 obtain⟨A,n,c,rfl,O,Z,u⟩:=h.cV;have aa:=h.J.cell 1;have T:=h.bh;rw[<-u]at T;clear u;go_enter func162,ntmps162;go_wp2_with(go_at_call 255;refine(G7 _ _ (h.J.cell 3)).mono ?_;rintro e w'⟨rfl,rfl⟩)
 refine(Fm _ _ _ (Az zc) _ O Ad).mono ?_;rintro e ab⟨v,rfl,U,V⟩;go_wp2;go_ret;exact⟨_,rfl,U,V⟩
def Ej(m n:Nat):List Bool:=(List.range n).map λv=>m.testBit v
def Aca(m n):(Ej m n).length=n:=by simp[Ej]
def RN(m){n v}(h:v<n):(Ej m n)[v]? =some (m.testBit v):=by simp[Ej,h]
def CL(c:An):Nat:=c.foldl (λa l=>if 0<l then a|||2^(l-1).toNat else a) 0
def DY(c:An):Nat:=c.foldl (λa l=>if 0<l then a else a|||2^(-l-1).toNat) 0
def K8(c l):CL (c++[l])=if 0<l then CL c|||2^(l-1).toNat else CL c:=by unfold CL;rw[xr];rfl
def Mg(c l):DY (c++[l])=if 0<l then DY c else DY c|||2^(-l-1).toNat:=by unfold DY;rw[xr];rfl
def UG(c i):(CL c).testBit i=c.any λl=>decide (0<l)&&decide ((l-1).toNat=i):=by refine D0 (P:=λc=>(CL c).testBit i=c.any λl=>decide (0<l)&&decide ((l-1).toNat=i)) ?_ ?_ c;simp[CL];intro xs x u;rw[K8,abx];by_cases h:0<x;rw[zq h,Nat.testBit_or,u,Nat.testBit_two_pow];simp[h];rw[zo h,u];simp[h]
def Wx(c i):(DY c).testBit i=c.any λl=>decide (¬0<l)&&decide ((-l-1).toNat=i):=by refine D0 (P:=λc=>(DY c).testBit i=c.any λl=>decide (¬0<l)&&decide ((-l-1).toNat=i)) ?_ ?_ c;simp[DY];intro xs x u;rw[Mg,abx];by_cases h:0<x;rw[zq h,u];simp[show¬x<=0 by omega];rw[zo h,Nat.testBit_or,u,Nat.testBit_two_pow];simp[show x<=0 by omega]
def U6(a b):a&&&b=0↔∀i,a.testBit i=true->b.testBit i=false:=by
 constructor;intro h i u;have:=aby (λx=>x.testBit i) h;simp only[acg,Nat.zero_testBit,u,abl]at this;exact this;intro h;apply acs;intro i;rw[acg,Nat.zero_testBit];cases u:a.testBit i with
 |false=>rfl
 |true=>rw[h i u];rfl
def Do(m y n:Nat):Bool:=(m&&&y==0)&&((4294967295-m)&&&n==0)
def U9{m n:Nat}(J:n<=16){l}(O:l≠0/\-(n:Int)<=l/\l<=n):Ch (Ej m n) l=if 0<l then m.testBit (l-1).toNat else !m.testBit (-l-1).toNat:=by
 have H:Ak l=if 0<l then l else-l:=by unfold Ak;(repeat(first|omega|split))
 unfold Ch Ku;rw[H,Aca];by_cases h:0<l;rw[zq h,zq h];have u:FI l=true:=by unfold FI;simp;omega
 have E:(Ej m n).getD (l-1).toNat false=m.testBit (l-1).toNat:=by rw[yc,RN m Ad];rfl
 rw[u,E,zt (show l≠0 by omega),zt (show l<=(n:Int)by omega)];cases m.testBit (l-1).toNat<;>rfl;rw[zo h,zo h];have u:FI l=false:=by unfold FI;simp;omega
 have E:(Ej m n).getD (-l-1).toNat false=m.testBit (-l-1).toNat:=by rw[yc,RN m Ad];rfl
 rw[u,E,zt (show-l≠0 by omega),zt (show-l<=(n:Int)by omega)];cases m.testBit (-l-1).toNat<;>rfl
def V9{m i}(u:m<2^16)(hi:i<16):(4294967295-m).testBit i=!m.testBit i:=by have e:4294967295-m=2^32-(m+1):=Ad;rw[e,Nat.testBit_two_pow_sub_succ Ad];simp[show i<32 by omega]
def YE{m n:Nat}(J:n<=16)(ab:m<2^n){c}(H:∀l∈c,l≠0/\-(n:Int)<=l/\l<=n):Do m (CL c) (DY c)=!CF c (Ej m n):=by
 have U:=x6 ab (aa1 Ax J);have V:(CF c (Ej m n)=true)↔∃l∈c,(if 0<l then m.testBit (l-1).toNat else !m.testBit (-l-1).toNat)=true:=by rw[CF,y7];constructor;rintro⟨l,u,h⟩;exact⟨l,u,by rw[<-U9 J (H l u)];exact h⟩;rintro⟨l,u,h⟩;exact⟨l,u,by rw[U9 J (H l u)];exact h⟩
 have Z:Do m (CL c) (DY c)=true↔(∀i,m.testBit i=true->(CL c).testBit i=false)/\∀i,(4294967295-m).testBit i=true->(DY c).testBit i=false:=by unfold Do;rw[z4,x3,x3,U6,U6]
 cases O:CF c (Ej m n)with
 |true=>
  obtain⟨l,u,h⟩:=V.1 O;cases ac:Do m (CL c) (DY c)with
  |false=>rfl
  |true=> obtain⟨ad,ae⟩:=Z.1 ac;have hb:=H l u;by_cases E:0<l;rw[zq E]at h;have:=ad _ h;rw[UG,xm]at this;have:=this l u;simp[E]at this;rw[zo E]at h;have:=ae (-l-1).toNat (by rw[V9 U Ad];exact h);rw[Wx,xm]at this;have:=this l u;simp[E]at this
 |false=>
  have aa:∀l∈c,(if 0<l then m.testBit (l-1).toNat else !m.testBit (-l-1).toNat)=false:=by
   intro l u;cases h:(if 0<l then m.testBit (l-1).toNat else !m.testBit (-l-1).toNat)with
   |false=>rfl
   |true=>rw[V.2 ⟨l,u,h⟩]at O;cases O
  have:Do m (CL c) (DY c)=true:=by refine Z.2 ⟨λi hi=>?_,λi hi=>?_⟩;rw[UG,xm];intro l u;simp only[z4,z8,not_and];intro E T;have:=aa l u;rw[zq E,T,hi]at this;cases this;rw[Wx,xm];intro l u;simp only[z4,z8,not_and];intro E T;have:=aa l u;have hb:=H l u;rw[zo E,T]at this;rw[V9 U Ad]at hi;rw[hi]at this;cases this
  rw[this];rfl
def BC(v:Int)(L:AT):Prop:=Ov v L/\v<=16
def Fw(v:Int)(L:AT):List Nat:=(List.range (2^v.toNat)).filter λm=>decide (Db L (Ej m v.toNat)<0)
def Sp{v L}(h:BC v L):0<=v/\v<=16/\Ov v L:=⟨h.1.1.1,h.2,h.1⟩
def Uo(v A n c L w)(h:Bf w A n L)(u:BC v L):AC 54 #[.agg #[v,.slice A n c]] w λe w'=>e=.returned ()/\Ae w w':=by
 have E:=(Ae.refl w).alloc (Obj.cells #[v,.slice A n c] 34);have J:=u.2;skip;go_enter func54,ntmps54;go_wp2_with fail
 refine(Mq v _ _ _ L _ (h.ext E) u.1).mono ?_;rintro e O⟨rfl,H⟩;have a0:=((Aq.new w 34 #[v,.slice A n c]).ext H).cell 0;go_wp2;go_ret;exact⟨rfl,(E.trans H)⟩
