import Derived.Test.YtdmempceikifeaaGreatA08
import Derived.Test.YtdmempceikifeaaGreatA09
import Derived.Test.YtdmempceikifeaaGreatA06
set_option maxRecDepth 100000
set_option maxHeartbeats 16000000
set_option linter.all false
namespace Go.Proofs.YtdmempceikifeaaGreat
open Go.RowKit Tryz
def I4(w:Aj)(za:Nat)(A:AD)(m:Nat)(vs:List Aw)(M:AT):Prop:=BA w A m 1 vs/\vs.length=M.length/\∀(j:Nat)(xs:An),M[j]? =some xs->∃u,vs[j]? =some u/\Ay w za u xs
def AW.less{w:Aj}{b b':Nat}{v:Aw}{L:AT}(h:AW w b v L)(hb:b'<=b):AW w b' v L:=by obtain⟨vs,E,H,J⟩:=h;exact⟨vs,AP.less E hb,H,λj xs O=>let⟨u,e,h⟩:=J j xs O;⟨u,e,h.less hb⟩⟩
def AW.src{w:Aj}{za:Nat}{v:Aw}{L:AT}(h:AW w za v L)(O:L.length<=Bh):∃A n c vs,v=.slice A n c/\n=L.length/\I4 w za A n vs L:=by obtain⟨vs,E,u,H⟩:=h;obtain⟨A,c,e,J,_⟩:=AP.aC E Ad;exact⟨A,_,c,vs,e,u,by rwa[u]at J⊢,u,H⟩
def Ho(w:Aj)(za:Nat)(A:AD)(n c:Nat)(y:An)(h:Ay w za (.slice A n c) y):I4 (w.alloc (.cells #[.slice A n c] 86)) za w 1 [.slice A n c] [y]:=⟨BA.bz w #[.slice A n c] 86,rfl,λj xs u=>by
 cases j with
 |zero=>simp at u;subst u;exact⟨_,rfl,h.ext ((Ae.refl _).alloc _)⟩
 |succ j=>simp at u⟩
def EM(w:Aj){zf:Array Oper}{rest:List Oper}{o:Oper}{a:Act}{Q:Exit->Act->Aj->Prop}(ae:o.guard=none)(s x:Operand) (af:o.op=.call {callee:=.builtin .append,args:=#[s,x],argTypes:=#[32,32]}) (za:Nat)(v:Aw)(L:AT)(ag:a.eval s=v)(ah:AW w za v L)(A:AD)(m c:Nat)(vs:List Aw)(M:AT)(aj:a.eval x=.slice A m c)(ak:I4 w za A m vs M)(hb:L.length+m<=1000000000000)(al:za<=w) (h:∀H J O w',AW w' za (.slice H J O) (L++M)->w.grownBy w' v.ownBlock->(∀k,v.ownBlock=some k->za<=k)->(∀b u xs,Ay w b u xs->Ay w' b u xs)->wpList prog zf Q rest (a.put o.dst (.slice H J O)) w'):wpList prog zf Q (o::rest) a w:=by
 obtain⟨U,V,am,an⟩:=ah;obtain⟨aa,au,ab⟩:=ak;have Z:vs.length=m:=by have:=aa.1;omega
 have keep:∀{w':Aj},w.grownBy w' v.ownBlock->∀b u xs,Ay w b u xs->Ay w' b u xs:=λao b u xs hi=>hi.kept ao (hi.bV V);refine D6 Ajb w ae s x af za v U.length U ag V A m c vs aj aa (λu Z=>?_) Ad al λav w' ac T aw=>?_;obtain⟨j,E⟩:=z0 Z;have ad:=(zl.1 E).1;obtain⟨ax,e,hi⟩:=ab j _ (zr Ad);rw[E]at e;cases e;obtain⟨_,_,_,rfl⟩:=hi.form;rfl;obtain⟨H,J,O,rfl⟩:=AP.form ac;refine h H J O w' ⟨U++vs,?_,by rw[zu,zu];omega,λj xs E=>?_⟩ T (λk e=>(xy V k e).1) (keep T);rw[zu,Z];exact ac;by_cases ad:j<L.length;rw[yh ad]at E;obtain⟨u,e,hi⟩:=an j xs E;exact⟨u,by rw[yh Ad];exact e,keep T _ _ _ hi⟩;rw[yi Ad]at E;obtain⟨u,e,hi⟩:=ab _ xs E;exact⟨u,by rw[yi Ad,am];exact e,keep T _ _ _ hi⟩
def MJ(L:AT)(w:Aj)(e:Bz)(w':Aj):Prop:=∃A n c,e=.returned (.slice A n c)/\AW w' w (.slice A n c) L/\Ae w w'
def Uq(w:Aj)(x y:Int):Ay (w.alloc (.cells #[x,y] 3)) w (.slice w 2 2) [x,y]:=Gr (w:=w.alloc (.cells #[x,y] 3)) (Aq.new w 3 #[x,y]) AG
def AB.from_{w:Aj}{u:Addr}{n c k:Nat}{xs:An}(h:AB w (some u) n xs)(V:k<=n)(Z:n<=c):∃E,(if c-k=0 then some u else some (u.add k))=some E/\AB w (some E) (n-k) (xs.drop k):=by have aa:=h.1;by_cases J:c-k=0;refine⟨u,zq J,Ca,by have:=h.2.1;omega,λx H=>h.2.2.1 x (adm H),λT=>Ad⟩;refine⟨_,zo J,Ca,by have:=h.2.1;omega,λx H=>h.2.2.1 x (adm H),λT=>⟨_,rfl,λj x O=>?_⟩⟩;obtain⟨E,e,U⟩:=h.2.2.2 Ad;cases e;rw[abe];rw[aaj]at O;exact U _ x O
def Of(b o k:Nat):(⟨b,o,none⟩:Addr).add k=⟨b,o+k,none⟩:=by unfold Addr.add;split<;>simp_all
def AcP(w:Aj)(za:Nat)(x y:Int)(hb:za<=w):I4 ((w.alloc (.cells #[x,y] 3)).alloc (.cells #[.slice w 2 2] 86)) za (some ⟨w+1,0,none⟩) 1 [.slice w 2 2] [[x,y]]:=by have h:=Ho (w.alloc (.cells #[x,y] 3)) za _ _ _ _ ((Uq w x y).less hb);rwa[z3]at h
def PV{vs:An}{j:Nat}{x:Int}(h:vs[j]? =some x):BQ (vs.drop j)=(vs.drop (j+1)).map (λy=>[-x,-y])++BQ (vs.drop (j+1)):=by rw[y8 (zl.1 h).1,BQ];rw[(zl.1 h).2]
def Aeh{xs:An}{m:Nat}{x y:Int}(h:xs[m]? =some y):(xs.drop m).map (λy=>[-x,-y])=[-x,-y]::(xs.drop (m+1)).map (λy=>[-x,-y]):=by rw[y8 (zl.1 h).1,(zl.1 h).2];rfl
def Ad1(A:AD)(n c:Nat)(vs:An)(w:Aj)(O:AB w A n vs)(an:n<=c)(aE:n<=1000)(ac:∀x∈vs,0<x/\x<=1000000):AC 64 #[.slice A n c] w (MJ (BQ vs) w):=by
 have T:=zk O.1;skip;go_enter func64,ntmps64;go_wp2;go_loopw[3,10](λv i wr=>∃(j:Nat)(L:AT),j<=n/\i=j/\AW wr w v L/\L++BQ (vs.drop j)=BQ vs/\L.length<=1000*j/\Ae w wr)(λ_ i _=>n-(intOf i).toNat);case atStart=>exact⟨0,[],zx _,rfl,AW.nil _ _,AG,AG,Ae.refl w⟩
 case round=>
  obtain⟨j,L,aF,rfl,H,u,aG,E⟩:=hrel;have U:=zk u;by_cases ao:j<n
  . obtain⟨ad,x,rfl,V,aq,aH,aI⟩:=(O.ext E).at_ ao;have aJ:=ac x (zm V.out);obtain⟨aK,Z,au⟩:=O.from_ (k:=j+1) Ad an;have aL:(j:Int)<(n:Int):=Ad;have aM:(0:Int)<=(j:Int):=Ad;clear u;by_cases aN:c=j+1
    . obtain rfl:n=j+1:=Ad;go_wp2;go_loopw[3,20](λv i av=>i=()/\av=wr/\AW wr w v L)(λ_ _ _=>0);case atStart=>exact⟨rfl,rfl,H⟩
      case round=> obtain⟨rfl,rfl,aw⟩:=hrel;go_wp2;refine⟨⟨j+1,L,zs _,by go_num,aw,?_,Ad,E⟩,by simp[intOf]⟩;have u:=U.out;rw[PV V.out]at u;rw[ach (by have:=T.out;omega)]at u⊢;exact u
    rw[zo Ad]at Z;have ax:AB w (some ⟨ad.block,ad.off+(j+1),none⟩) (n-(j+1)) (vs.drop (j+1)):=by have:=au;rw[<-Z]at this;exact this
    have aO:IntKind.i64.wrap (-x)=-x:=z5 _ Ad;clear Z;go_wp2;go_loopw[3,20](λv i wr=>∃(m:Nat)(L:AT),m<=n-(j+1)/\i=m/\AW wr w v L/\L++(((vs.drop (j+1)).drop m).map (λy=>[-x,-y])++BQ (vs.drop (j+1)))=BQ vs/\L.length<=1000*j+m/\Ae w wr)(λ_ i _=>n-(intOf i).toNat);case atStart=>exact⟨0,L,zx _,rfl,H,by have u:=U.out;rw[PV V.out]at u;exact u,Ad,E⟩
    case round=>
     obtain⟨m,aa,aP,rfl,ae,u,aQ,E⟩:=hrel;have af:=zk u;have J:=zk E;by_cases ay:m<n-(j+1);obtain⟨aR,y,e,ab,az,aS,aT⟩:=(ax.ext E).at_ ay;cases e;have aA:=zk ab;rw[Of]at az;have aU:=ac y (adm (zm ab));have w2:IntKind.i64.wrap (-y)=-y:=z5 _ Ad;have aV:(m:Int)<((n-(j+1):Nat):Int):=Ad;have aW:(0:Int)<=(m:Int):=Ad;clear u ab aq;go_wp2_with(at_builtin;refine EM _ rfl (.tmp 24) (.tmp 30) rfl w _ aa rfl (ae.ext (((Ae.refl _).alloc _).alloc _)) _ _ _ _ [[-x,-y]] rfl (AcP _ w _ _ (Ae.size_le J.out)) Ad (by have:=Ae.size_le J.out;simp;omega) ?_;intro ag ah aj aB ak al am _;have aC:=zk ak;have aD:Hid (Ae w aB):=Ae.grown ((J.out.alloc _).alloc _) al am;clear ak al am)
     refine⟨⟨m+1,aa++[[-x,-y]],Ad,by go_num,aC,?_,Ca,aD.out⟩,by simp[intOf];omega⟩;have u:=af.out;rw[Aeh aA]at u;simpa using u;obtain rfl:m=n-(j+1):=Ad;clear u;go_wp2;refine⟨⟨j+1,aa,Ad,by go_num,ae,?_,Ad,J⟩,by simp[intOf];omega⟩;have u:=af.out;rw[List.drop_drop,ach (by have:=T.out;omega)]at u;exact u
  obtain rfl:j=n:=Ad;go_wp2;go_ret;obtain⟨ag,ah,aj,e,_⟩:=H.form;subst e;have u:=U.out;rw[ach (by have:=T.out;omega),BQ,yg]at u;rw[<-u];exact⟨ag,ah,aj,rfl,H,E⟩
def AhC(n:Nat)(q:Addr)(g:Nat)(u:Nat->Int×Nat×Nat)(w:Aj):Prop:=(∀(args:Ck)(W:Aj),(callFunc g args).run prog W=.ok (.enter g args) W)/\∀(k:Nat)(W:Aj),k<n->Ae w W->AC g #[k,.pointer (some q)] W λe w'=>e=.returned (.agg #[(u k).1,(u k).2.1,(u k).2.2])/\Ae W w'
def Ado(n S:Nat)(u:Nat->Int×Nat×Nat):Prop:=∀k,k<n->(1<=(u k).1/\(u k).1<=3)/\((u k).2.1:Int)<(Cj n S (u k).1).2.2/\((u k).2.2:Int)<(Cj n S (u k).1).2.1
def Nr(n S:Nat)(u:Nat->Int×Nat×Nat)(k:Nat):Int:=NL n S (u k).1 (u k).2.1 (u k).2.2
def WI(n S g:Nat)(q:Addr)(E:Nat->Int×Nat×Nat)(w:Aj)(al:n<=4)(am:1<=S/\S<=32)(ac:AhC n q g E w)(U:Ado n S E):AC 62 #[.agg #[n,S],.func (.func g) #[] #[.pointer (some q)]] w (GX ((List.range n).map (Nr n S E)) w):=by
 have an:∀W,(Instr.makeSlice 86 n n).run prog W=.ok (.slice W n n) (W.alloc (.cells (madeCells #[()] n) 3)):=λW=>by obtain⟨ao,hi,aq,au,av⟩:=info_parts Jr;have:=Ci (P:=prog) 86 3 ao _ underlying86 hi aq .i64 .i64 n n (zs _) (by rw[av];omega) (by omega) W;rw[au,abc]at this;exact this
 have ad:Ae w (w.alloc (.cells #[.int .i64 (n:Int),.int .i64 (S:Int)] 67)):=(Ae.refl _).alloc _;have hb:=Aq.new w 67 #[.int .i64 (n:Int),.int .i64 (S:Int)];generalize ae:w.alloc (.cells #[.int .i64 (n:Int),.int .i64 (S:Int)] 67)=H at *;have af:H.heap.size=w.heap.size+1:=by rw[<-ae,z3]
 have V:=hb.cell 0;have Z:=hb.cell 1;have ag:=ad;have ah:=hb;clear ad hb;go_enter func62,ntmps62;go_wp2;have aw:Ae H (H.alloc (.cells (madeCells #[()] n) 3)):=by grind
 have aa:Aq (H.alloc (.cells (madeCells #[()] n) 3)) H 3 (Cu (Nr n S E) n 0):=by rw[<-IV (Nr n S E)];exact Aq.new H _ _
 rw[af]at aa;have ax:=aa;clear aa an ae V Z;go_loopw[12](λi wr=>∃k:Nat,i=k/\k<=n/\Ae H wr/\Aq wr (w+1) 3 (Cu (Nr n S E) n k))(λi _=>n-(intOf i).toNat);case atStart=>exact⟨0,rfl,zx _,aw,ax⟩
 case round=>
  obtain⟨k,rfl,aD,J,aj⟩:=hrel;by_cases O:k<n;have V:=λW'(u:Ae wr W')=>u.cell (J.cell (ah.cell 0));have Z:=λW'(u:Ae wr W')=>u.cell (J.cell (ah.cell 1));have aE:(k:Int)<(n:Int):=Ad;have aF:(0:Int)<=(k:Int):=Ad;have ay:∀W,Ae wr W->_:=λW u=>ac.2 k W O ((ag.trans J).trans u);have az:∀W,_:=λW=>I5 n S (E k).1 (E k).2.1 (E k).2.2 W al am (U k O).1 (U k O).2.1 (U k O).2.2;have aG:=ac.1;skip;go_wp2;refine CO (n:=8) AJ rfl rfl ?_;simp only[List.take_succ_cons,List.take_zero];(repeat first|apply Bg rfl (λW u=>Am) Am|apply AS rfl Am);apply Bu (λW u=>ay W u) rfl (λW u=>by go_simp) Am;(repeat first|apply Bg rfl (λW u=>Am) Am|apply AS rfl Am);apply Bu (λW u=>az W) rfl (λW u=>by go_simp) Am;(repeat first|apply Bg rfl (λW u=>Am) Am|apply AS rfl Am);refine AN λaA u=>?_;have T:=aj.ext u;have aB:=J.trans u;have aH:=T.frozen k;have aI:aA.cell? ⟨w+1,k,none⟩=some ():=by rw[T.cell k];simp[Cu,O]
  have ab:=T.ad k (Nr n S E k);rw[IC (Nr n S E)]at ab;have aC:=ab;have aJ:NL n S (E k).1 (E k).2.1 (E k).2.2=Nr n S E k:=rfl;clear T ab u V Z;go_wp2;exact⟨⟨k+1,by go_num,Ad,aB.setCell (p:=⟨w+1,k,none⟩) (by rw[af];exact zs _) _,aC⟩,by simp[intOf];omega⟩;obtain rfl:k=n:=Ad;skip;go_wp2;go_ret;have hb:=aj;rw[IG]at hb;have ak:=Gr hb (by rw[z2,y9];omega);rw[z2,y9]at ak;exact⟨_,rfl,Ay.less ak (Nat.le_succ _),ag.trans J⟩
def AhW(w:Aj)(g:Nat)(a b c:Aw):Aj:=((w.setCell g a).setCell ⟨g,1,none⟩ b).setCell ⟨g,2,none⟩ c
def Tf{w:Aj}{g:Nat}{t:TypeId}{a b c a' b' c':Aw}(h:Aq w g t #[a',b',c']):Aq (AhW w g a b c) g t #[a,b,c]:=((h.ad 0 a).ad 1 b).ad 2 c
def Uv{w W:Aj}{g:Nat}(h:Ae w W)(u:w<=g)(a b c:Aw):Ae w (AhW W g a b c):=((h.setCell (p:=g) u a).setCell (p:=⟨g,1,none⟩) u b).setCell (p:=⟨g,2,none⟩) u c
def Ag8(n a:Nat)(q:Addr)(w:World)(H:w.cell? q=some (.int .i64 (a:Int))):AhC n q 63 (λk=>(1,a,k)) w:=by
 refine⟨λargs W=>by go_simp,λk W U J=>?_⟩;have E:Ae W (W.alloc (.cells #[.int .i64 0,.int .i64 0,.int .i64 0] 144)):=(Ae.refl _).alloc _;have u:=Aq.new W 144 #[.int .i64 0,.int .i64 0,.int .i64 0];generalize V:W.alloc (.cells #[(),(),()] 144)=Z at *;have aa:=E.cell (J.cell H);have O:=u;have T:=E;have d0:=u.cell 0;have d1:=u.cell 1;have d2:=u.cell 2;have f0:=u.frozen 0;have f1:=u.frozen 1;have f2:=u.frozen 2;clear J H u E;go_enter func63,ntmps63;go_wp2;try rw[x8]
 refine yw (xq rfl _ _ W 144 #[AF,a,k] (0,0) _ rfl (Tf O) underlying144 rfl AJ) rfl ?_;exact⟨rfl,Uv T (zs _) _ _ _⟩
def AhP(n a:Nat)(q:Addr)(w:World)(H:w.cell? q=some (.int .i64 (a:Int))):AhC n q 65 (λk=>(1,k,a)) w:=by
 refine⟨λargs W=>by go_simp,λk W U J=>?_⟩;have E:Ae W (W.alloc (.cells #[.int .i64 0,.int .i64 0,.int .i64 0] 144)):=(Ae.refl _).alloc _;have u:=Aq.new W 144 #[.int .i64 0,.int .i64 0,.int .i64 0];generalize V:W.alloc (.cells #[(),(),()] 144)=Z at *;have aa:=E.cell (J.cell H);have O:=u;have T:=E;have d0:=u.cell 0;have d1:=u.cell 1;have d2:=u.cell 2;have f0:=u.frozen 0;have f1:=u.frozen 1;have f2:=u.frozen 2;clear J H u E;go_enter func65,ntmps65;go_wp2;try rw[x8]
 refine yw (xq rfl _ _ W 144 #[AF,k,a] (0,0) _ rfl (Tf O) underlying144 rfl AJ) rfl ?_;exact⟨rfl,Uv T (zs _) _ _ _⟩
def Ny(vs:An):(BQ vs).length<=vs.length*vs.length:=by
 induction vs with
 |nil=>simp[BQ]
 |cons v t u=>
  rw[BQ,zu,z2,List.length_cons];have:(t.length+1)*(t.length+1)=t.length*t.length+t.length+t.length+1:=by rw[adw,Nat.mul_add];omega
  omega
def Ab4(n S k:Nat):(List.range n).map (Nr n S λb=>(1,k,b))=EA n k:=by unfold EA Nr;simp only[JD]
def AbR(n S k:Nat):(List.range n).map (Nr n S λb=>(1,b,k))=Gu n k:=by unfold Gu Nr;simp only[JD]
def AhH{n S k:Nat}(u:k<n):Ado n S λb=>(1,k,b):=λb hb=>by dsimp only;refine⟨⟨Ax,Ax⟩,?_⟩;simp[Cj];omega
def Ahe{n S k:Nat}(u:k<n):Ado n S λb=>(1,b,k):=λb hb=>by dsimp only;refine⟨⟨Ax,Ax⟩,?_⟩;simp[Cj];omega
def Qj{n a b:Nat}(u:n<=4)(E:a<n)(hb:b<n):0<Cx n a b/\Cx n a b<=1000000:=by unfold Cx;have:a*n<=4*4:=ym Ad u;omega
def Q9{n a:Nat}(u:n<=4)(E:a<n):(EA n a).length=n/\∀x∈EA n a,0<x/\x<=1000000:=by unfold EA;refine⟨AG,λx H=>?_⟩;obtain⟨k,J,rfl⟩:=zw.1 H;exact Qj u E (zv.1 J)
def Rg{n a:Nat}(u:n<=4)(E:a<n):(Gu n a).length=n/\∀x∈Gu n a,0<x/\x<=1000000:=by unfold Gu;refine⟨AG,λx H=>?_⟩;obtain⟨k,J,rfl⟩:=zw.1 H;exact Qj u (zv.1 J) E
def Pw{W:Aj}{b:Nat}{A:AD}{n c:Nat}{xs:An}(h:Ay W b (.slice A n c) xs)(V:xs.length<=1000)(u:∀x∈xs,0<x/\x<=1000000):AC 64 #[.slice A n c] W (MJ (BQ xs) W):=by obtain⟨A',n',c',e,E,H⟩:=h.aQ Ad (λx J=>by have:=u x J;omega);injection e with O T U;subst O T U;exact Ad1 A n c xs W E H (by have:=E.1;omega) u
def Vn(n S:Nat)(w:Aj)(u:n<=4)(ay:1<=S/\S<=32):AC 20 #[.agg #[n,S]] w (MJ (Fj n) w):=by
 have aN:Ae w (w.alloc (.cells #[n,S] 67)):=(Ae.refl _).alloc _;have hb:=Aq.new w 67 #[n,S];generalize aW:w.alloc (.cells #[n,S] 67)=aX at *;have U:=hb.cell 0;have V:=hb.cell 1;have aY:=aN;have az:=hb;clear aN hb;go_enter func20,ntmps20;go_wp2_with fail
 refine(EL n S aX u ay).mono ?_;rintro e E⟨rfl,af⟩;have U:=af.cell (az.cell 0);have V:=af.cell (az.cell 1);have aO:=aY.trans af;have ae:=az.ext af;clear af aW;go_wp2;go_loopw[3,13](λv i wr=>∃(k:Nat)(L:AT),k<=n/\i=k/\AW wr E v L/\L=(List.range k).flatMap (λa=>EA n a::BQ (EA n a))/\L.length<=100*k/\Ae E wr)(λ_ i _=>n-(intOf i).toNat);case atStart=>exact⟨0,[],zx _,rfl,AW.nil _ _,AG,AG,Ae.refl _⟩
 case round=>
  obtain⟨k,L,aZ,rfl,av,Z,bz,H⟩:=hrel;have aP:=zk Z;by_cases O:k<n
  . have ag:=(Aq.new wr 3 #[()]).ad 0 k;have J:Ae wr ((wr.alloc (.cells #[()] 3)).setCell wr k):=((Ae.refl wr).alloc _).setCell (p:=wr) (zs _) _;generalize a1:(wr.alloc (.cells #[()] 3)).setCell wr k=ah at *;have aj:=Ag8 n k wr ah (ag.cell 0);have aa:=WI n S _ _ _ ah u ay aj (AhH O);rw[Ab4]at aa;have U:=J.cell (H.cell (ae.cell 0));have V:=J.cell (H.cell (ae.cell 1));have a5:(k:Int)<(n:Int):=Ad;have a6:(0:Int)<=(k:Int):=Ad;have aA:=aa;have ab:=H.trans J;have aB:=J;clear Z ag J aj aa;go_wp2_with fail
    refine aA.mono ?_;rintro e w2⟨v,rfl,ac,T⟩;obtain⟨a7,a8,a9,rfl⟩:=ac.form;have aC:=av.ext (aB.trans T);have aw:=ab.trans T;have aQ:=Ae.size_le (ab.trans T);have ax:=Ay.less ac (Ae.size_le ab);clear ac T U V;go_wp2_with(at_builtin;refine EM _ rfl (.tmp 19) (.tmp 21) rfl E _ L rfl (aC.ext ((Ae.refl _).alloc _)) _ _ _ _ [EA n k] rfl (Ho _ E _ _ _ _ ax) Ad (by have:=aQ;simp;omega) ?_;intro bA bB bC ba bc aR aS aT;have aU:Hid (Ae E ba):=Ae.grown (aw.alloc _) aR aS;have bd:=aT _ _ _ (ax.alloc _);clear aR aS aT)
    refine(Pw bd (by rw[(Q9 u O).1];omega) (Q9 u O).2).mono ?_;rintro e be⟨bf,bh,bi,rfl,ak,ad⟩;have al:(BQ (EA n k)).length<=16:=by have:=Ny (EA n k);rw[(Q9 u O).1]at this;have bj:n*n<=4*4:=ym u u;omega
    obtain⟨A',n',c',vs,e,am,an⟩:=(ak.less (Ae.size_le aU)).src Ad;injection e with aD aE aF;subst aD aE aF;have aG:=an;have aH:=zk am;have aI:=bc.ext ad;have ao:=aU.trans ad;clear ak ad an am;go_wp2_with(at_builtin;refine EM _ rfl (.tmp 22) (.tmp 24) rfl E _ (L++[EA n k]) rfl aI _ _ _ _ (BQ (EA n k)) rfl aG (by have:=aH.out;have:=al;simp;omega) (Ae.size_le ao) ?_;intro bk bn br aJ aK aq au _;have aL:Hid (Ae E aJ):=Ae.grown ao aq au;clear aq au)
    go_roundw;case rel=>exact⟨k+1,_,Ad,by go_num,aK,by rw[aP.out,xi,y4];simp,by have:=al;simp;omega,aL⟩
    case measure=>simp[intOf];omega
  . obtain rfl:n=k:=Ad;have U:=H.cell (ae.cell 0);have V:=H.cell (ae.cell 1);clear Z;go_wp2;clear U V;go_loopw[3,29](λv i wr=>∃(k:Nat)(M:AT),k<=n/\i=k/\AW wr E v (L++M)/\M=(List.range k).flatMap (λa=>BQ (Gu n a))/\M.length<=100*k/\Ae E wr)(λ_ i _=>n-(intOf i).toNat);case atStart=>exact⟨0,[],zx _,rfl,by rw[yg];exact av,AG,AG,H⟩
    case round=>
     obtain⟨k,M,aZ,rfl,av,Z,bD,H⟩:=hrel;have aM:=zk av;have aV:=zk Z;have bt:=zk H;by_cases O:k<n;have ag:=(Aq.new wr 3 #[()]).ad 0 k;have J:Ae wr ((wr.alloc (.cells #[()] 3)).setCell wr k):=((Ae.refl wr).alloc _).setCell (p:=wr) (zs _) _;generalize a1:(wr.alloc (.cells #[()] 3)).setCell wr k=ah at *;have aj:=AhP n k wr ah (ag.cell 0);have aa:=WI n S _ _ _ ah u ay aj (Ahe O);rw[AbR]at aa;have U:=J.cell (H.cell (ae.cell 0));have V:=J.cell (H.cell (ae.cell 1));have a5:(k:Int)<(n:Int):=Ad;have a6:(0:Int)<=(k:Int):=Ad;have aA:=aa;have ab:=H.trans J;have aB:=J;clear Z ag J aj aa;go_wp2_with fail
     refine aA.mono ?_;rintro e w2⟨v,rfl,ac,T⟩;obtain⟨a7,a8,a9,rfl⟩:=ac.form;have aC:=aM.ext (aB.trans T);have aw:=ab.trans T;have aQ:=Ae.size_le (ab.trans T);have ax:=Ay.less ac (Ae.size_le ab);clear ac T U V;go_wp2_with fail
     refine(Pw ax (by rw[(Rg u O).1];omega) (Rg u O).2).mono ?_;rintro e be⟨bf,bh,bi,rfl,ak,ad⟩;have al:(BQ (Gu n k)).length<=16:=by have:=Ny (Gu n k);rw[(Rg u O).1]at this;have bj:n*n<=4*4:=ym u u;omega
     obtain⟨A',n',c',vs,e,am,an⟩:=(ak.less (Ae.size_le aw)).src Ad;injection e with aD aE aF;subst aD aE aF;have aG:=an;have aH:=zk am;have aI:=aC.ext ad;have ao:=aw.trans ad;clear ak ad an am;go_wp2_with(at_builtin;refine EM _ rfl (.tmp 35) (.tmp 37) rfl E _ (L++M) rfl aI _ _ _ _ (BQ (Gu n k)) rfl aG (by have:=aH.out;have:=al;simp;omega) (Ae.size_le ao) ?_;intro bk bn br aJ aK aq au _;have aL:Hid (Ae E aJ):=Ae.grown ao aq au;clear aq au)
     go_roundw;case rel=>exact⟨k+1,M++BQ (Gu n k),Ad,by go_num,by have:=aK;rwa[yy]at this,by rw[aV.out,xi,y4];simp,by have:=al;simp;omega,aL⟩
     case measure=>simp[intOf];omega
     obtain rfl:n=k:=Ad;clear Z;go_wp2;go_ret;obtain⟨bu,bw,bx,e,_⟩:=aM.form;subst e;have:=aM.out;rw[aP.out,aV.out]at this;exact⟨bu,bw,bx,rfl,this.less (Ae.size_le aO),aO.trans bt⟩
def U2(n S a b:Nat)(w:Aj)(H:n<=4)(J:1<=S/\S<=32)(ab:a<=n)(hb:b<S):AC 70 #[.agg #[n,S],a,b] w λe w'=>e=.returned (Dd n S a b)/\Ae w w':=by
 have O:Ae w (w.alloc (.cells #[n,S] 67)):=(Ae.refl _).alloc _;have u:=Aq.new w 67 #[n,S];generalize ac:w.alloc (.cells #[n,S] 67)=T at *;have ad:=u.cell 0;have ae:=u.cell 1;have E:=I5 n S 3 a b T H J ⟨Ax,Ax⟩ (by simp[Cj];omega) (by simp[Cj];omega);rw[RH]at E;have U:=O;have V:=E;go_enter func70,ntmps70;go_wp2_with fail
 refine V.mono ?_;rintro e af⟨rfl,Z⟩;have aa:=U.trans Z;go_wp2;go_ret;exact⟨rfl,aa⟩
def AiP(n:Nat)(p q:Addr)(g:Nat)(f:Nat->Int)(w:Aj):Prop:=(∀(args:Ck)(W:Aj),(callFunc g args).run prog W=.ok (.enter g args) W)/\∀(k:Nat)(W:Aj),k<n->Ae w W->AC g #[k,.pointer (some p),.pointer (some q)] W λe w'=>e=.returned (f k)/\Ae W w'
def AeL(n g:Nat)(p q:Addr)(f:Nat->Int)(w:Aj)(ak:n<=1000)(O:AiP n p q g f w):AC 71 #[n,.func (.func g) #[] #[.pointer (some p),.pointer (some q)]] w (GX ((List.range n).map f) w):=by
 have Z:∀W,(Instr.makeSlice 86 n n).run prog W=.ok (.slice W n n) (W.alloc (.cells (madeCells #[()] n) 3)):=λW=>by obtain⟨aa,hi,ab,ac,ad⟩:=info_parts Jr;have:=Ci (P:=prog) 86 3 aa _ underlying86 hi ab .i64 .i64 n n (zs _) (by rw[ad];omega) Ad W;rw[ac,abc]at this;exact this
 skip;go_enter func71,ntmps71;go_wp2;have ae:Ae w (w.alloc (.cells (madeCells #[()] n) 3)):=by grind
 have af:Aq (w.alloc (.cells (madeCells #[()] n) 3)) w 3 (Cu f n 0):=by rw[<-IV f];exact Aq.new w _ _
 clear Z;go_loopw[11](λi wr=>∃k:Nat,i=k/\k<=n/\Ae w wr/\Aq wr w 3 (Cu f n k))(λi _=>n-(intOf i).toNat);case atStart=>exact⟨0,rfl,zx _,ae,af⟩
 case round=>
  obtain⟨k,rfl,al,E,T⟩:=hrel;by_cases U:k<n;have am:(k:Int)<(n:Int):=Ad;have an:(0:Int)<=(k:Int):=Ad;have ag:=O.2 k wr U E;have ao:=O.1;skip;go_wp2_with fail
  refine ag.mono ?_;rintro e w2⟨rfl,H⟩;have u:=T.ext H;have ah:=E.trans H;have aq:=u.frozen k;have au:w2.cell? ⟨w,k,none⟩=some ():=by rw[u.cell k];simp[Cu,U]
  have J:=u.ad k (f k);rw[IC f]at J;have aj:=J;clear u J H;go_wp2;go_roundw;case rel=>exact⟨k+1,by go_num,Ad,ah.setCell (p:=⟨w,k,none⟩) (zs _) _,aj⟩
  case measure=>simp[intOf];omega
  obtain rfl:k=n:=Ad;skip;go_wp2;go_ret;have hb:=T;rw[IG]at hb;have V:=Gr hb (by rw[z2,y9];omega);rw[z2,y9]at V;exact⟨_,rfl,V,E⟩
def AiE(n S a:Nat)(p q:Addr)(w:World)(E:n<=4)(H:1<=S/\S<=32)(J:a<=n)(O:w.cell? p=some (.int .i64 (n:Int)))(T:w.cell? ⟨p.block,p.off+1,none⟩=some (.int .i64 (S:Int)))(U:w.cell? q=some (.int .i64 (a:Int))):AiP S p q 72 (λb=>Dd n S a b) w:=by
 refine⟨λargs W=>by go_simp,λk W V u=>?_⟩;have aa:=u.cell O;have ab:=u.cell T;have ac:=u.cell U;go_enter func72,ntmps72;go_wp2_with fail
 refine(U2 n S a k W E H J V).mono ?_;rintro e ad⟨rfl,Z⟩;go_wp2;go_ret;exact⟨rfl,Z⟩
def T2(w:Aj)(za:Nat)(u:Aw)(t:TypeId)(hb:za<=w):AP (w.alloc (.cells #[u] t)) za t 1 (.slice w 1 1) 1 [u]:=⟨AG,Or.inr ⟨w,1,#[u],rfl,hb,aaf w _,zs _,Ax,AG,AG⟩⟩
def OU(w:Aj)(x:Int):Ay (w.alloc (.cells #[x] 3)) w (.slice w 1 1) [x]:=Gr (w:=w.alloc (.cells #[x] 3)) (Aq.new w 3 #[x]) AG
def Acy(w:Aj)(za:Nat)(x:Int)(hb:za<=w):AW ((w.alloc (.cells #[x] 3)).alloc (.cells #[.slice w 1 1] 86)) za (.slice (some ⟨w+1,0,none⟩) 1 1) [[x]]:=by
 have h:=T2 (w.alloc (.cells #[x] 3)) za (.slice w 1 1) 86 (by rw[z3];omega);rw[z3]at h;refine⟨[.slice w 1 1],h,rfl,λj xs u=>?_⟩;cases j with
 |zero=> simp at u;subst u;exact⟨_,rfl,((OU w x).less hb).alloc _⟩
 |succ j=>simp at u
def SZ{n S a b:Nat}(u:n<=4)(E:S<=32)(H:a<=n)(hb:b<S):0<Dd n S a b/\Dd n S a b<=1000000:=by unfold Dd;have J:=ym Ad E;have O:=ym u u;omega
def AgL{n S a:Nat}(u:n<=4)(E:S<=32)(H:a<=n):(ER n S a).length=S/\∀x∈ER n S a,0<x/\x<=1000000:=by unfold ER;refine⟨AG,λx J=>?_⟩;obtain⟨k,O,rfl⟩:=zw.1 J;exact SZ u E H (zv.1 O)
def Vx(n S zj:Nat)(w:Aj)(T:n<=4)(u:1<=S/\S<=32)(hi:zj<S):AC 23 #[.agg #[n,S],zj] w (MJ (Fl n S zj) w):=by
 have ak:Ae w (w.alloc (.cells #[n,S] 67)):=(Ae.refl _).alloc _;have hb:=Aq.new w 67 #[n,S];generalize aH:w.alloc (.cells #[n,S] 67)=aI at *;have E:=hb.cell 0;have H:=hb.cell 1;have d1:decide ((zj:Int)<0)=false:=zn Ad;have d2:decide ((S:Int)<=(zj:Int))=false:=zn Ad;have aJ:=ak;have ac:=hb;clear ak hb;go_enter func23,ntmps23;go_wp2_with fail
 refine(EL n S aI T u).mono ?_;rintro e aK⟨rfl,J⟩;have E:=J.cell (ac.cell 0);have H:=J.cell (ac.cell 1);have aL:=aJ.trans J;have aM:=ac.ext J;clear J aH;go_wp2_with fail
 refine(U2 n S 0 zj aK T u (zx _) hi).mono ?_;rintro e w2⟨rfl,ad⟩;have al:=aL.trans ad;have U:=aM.ext ad;have am:=Acy w2 w2 (Dd n S 0 zj) (zs _);have V:Ae w2 ((w2.alloc (.cells #[(Dd n S 0 zj)] 3)).alloc (.cells #[.slice w2 1 1] 86)):=((Ae.refl _).alloc _).alloc _;generalize aN:(w2.alloc (.cells #[(Dd n S 0 zj)] 3)).alloc (.cells #[.slice w2 1 1] 86)=bk at *;have E:=V.cell (U.cell 0);have H:=V.cell (U.cell 1);have aO:=am;have aP:=V;clear ad am V d1 d2;go_wp2;clear aN E H;go_loopw[5,29](λv i wr=>∃(k:Nat)(L:AT),k<=n+1/\i=k/\AW wr w2 v L/\L=[Dd n S 0 zj]::(List.range k).flatMap (λa=>ER n S a::BQ (ER n S a))/\L.length<=1+2000*k/\Ae w2 wr)(λ_ i _=>n+1-(intOf i).toNat);case atStart=>exact⟨0,[[Dd n S 0 zj]],zx _,rfl,aO,AG,AG,aP⟩
 case round=>
  obtain⟨k,L,bn,rfl,ae,af,br,Z⟩:=hrel;have an:=zk af;by_cases bt:k<n+1;have ao:=(Aq.new wr 3 #[()]).ad 0 k;have O:Ae wr ((wr.alloc (.cells #[()] 3)).setCell wr k):=((Ae.refl wr).alloc _).setCell (p:=wr) (zs _) _;generalize bu:(wr.alloc (.cells #[()] 3)).setCell wr k=aq at *;have E:=O.cell (Z.cell (U.cell 0));have H:=O.cell (Z.cell (U.cell 1));have au:=AiE n S k w wr aq T u Ad E H (ao.cell 0);have aQ:=AeL S _ _ _ _ aq Ad au;have bw:(k:Int)<(n:Int)+1:=Ad;have bx:(0:Int)<=(k:Int):=Ad;have ag:=Z.trans O;have aR:=O;clear af ao O au;go_wp2_with fail
  refine aQ.mono ?_;rintro e aS⟨v,rfl,ah,aa⟩;obtain⟨aT,aU,aV,rfl⟩:=ah.form;have aW:=ae.ext (aR.trans aa);have aX:=ag.trans aa;have aY:=Ae.size_le (ag.trans aa);have av:Ay aS w2 (.slice aT aU aV) (ER n S k):=Ay.less ah (Ae.size_le ag);clear ah aa E H;go_wp2_with(at_builtin;refine EM _ rfl (.tmp 36) (.tmp 38) rfl w2 _ L rfl (aW.ext ((Ae.refl _).alloc _)) _ _ _ _ [ER n S k] rfl (Ho _ w2 _ _ _ _ av) Ad (by have:=aY;simp;omega) ?_;intro bz bA bB aZ a1 aw ax ay;have az:Hid (Ae w2 aZ):=Ae.grown (aX.alloc _) aw ax;have a5:=ay _ _ _ (av.alloc _);clear aw ax ay)
  have ab:=AgL T u.2 (show k<=n by omega);refine(Pw a5 (by rw[ab.1];omega) ab.2).mono ?_;rintro e bC⟨bD,bE,bF,rfl,aA,aj⟩;have aB:(BQ (ER n S k)).length<=1024:=by have:=Ny (ER n S k);rw[ab.1]at this;have bG:S*S<=32*32:=ym u.2 u.2;omega
  obtain⟨A',n',c',vs,e,aC,aD⟩:=(aA.less (Ae.size_le az)).src Ad;injection e with a6 a7 a8;subst a6 a7 a8;have a9:=aD;have ba:=zk aC;have bc:=a1.ext aj;have aE:=az.trans aj;clear aA aj aD aC ab;go_wp2_with(at_builtin;refine EM _ rfl (.tmp 39) (.tmp 41) rfl w2 _ (L++[ER n S k]) rfl bc _ _ _ _ (BQ (ER n S k)) rfl a9 (by have:=ba.out;have:=aB;simp;omega) (Ae.size_le aE) ?_;intro bH bI bJ bd be aF aG _;have bf:Hid (Ae w2 bd):=Ae.grown aE aF aG;clear aF aG)
  go_roundw;case rel=>exact⟨k+1,_,Ad,by go_num,be,by rw[an.out,xi,y4];simp,by have:=aB;simp;omega,bf⟩
  case measure=>simp[intOf];omega
  obtain rfl:k=n+1:=Ad;clear af;go_wp2;go_ret;obtain⟨bh,bi,bj,e,_⟩:=ae.form;subst e;have:=ae;rw[an.out]at this;exact⟨bh,bi,bj,rfl,this.less (Ae.size_le al),al.trans Z⟩
def X8(a b n:Nat)(w:Aj)(E:a<n)(hb:b<n):AC 68 #[.agg #[a,b],n] w λe w'=>e=.returned (.bool (!decide (a=b)))/\Ae w w':=by
 go_enter func68,ntmps68;go_wp2;go_ret;refine⟨?_,by grind⟩;have:((a:Int)!=(b:Int))=!decide (a=b):=by by_cases h:a=b;simp[h];have u:(a:Int)≠b:=Ad;simp[h,u]
 rw[this];rfl
def Afj(n S a b:Nat)(p:Addr)(w:World)(E:n<=4)(H:1<=S/\S<=32)(O:a<n)(hb:b<n)(T:w.cell? p=some (.int .i64 (n:Int)))(U:w.cell? ⟨p.block,p.off+1,none⟩=some (.int .i64 (S:Int))):Calls prog 66 #[.int .i64 (a:Int),b,.pointer (some p)] w λe w'=>e=.returned (Cx n a b)/\Ae w w':=by
 have u:=I5 n S 1 a b w E H ⟨Ax,Ax⟩ (by simp[Cj];omega) (by simp[Cj];omega);rw[JD]at u;go_enter func66,ntmps66;go_wp2_with fail
 refine u.mono ?_;rintro e V⟨rfl,J⟩;go_wp2;go_ret;exact⟨rfl,J⟩
def Ly(p:Nat×Nat):List Aw:=[p.1,p.2]
def Ig(p:Nat×Nat):(Ly p).length=2:=rfl
def NX(w:Aj)(A:AD)(m:Nat)(ps:List (Nat×Nat)):Prop:=BA w A m 2 (ps.flatMap Ly)
def NX.at_{w:Aj}{A:AD}{n k:Nat}{ps:List (Nat×Nat)}(h:NX w A n ps)(V:k<n):∃E a b,A=some E/\ps[k]? =some (a,b)/\w.cell? (E.add (k*2))=some (.int .i64 (a:Nat))/\w.cell? ⟨(E.add (k*2)).block,(E.add (k*2)).off+1,none⟩=some (.int .i64 (b:Nat)):=by
 obtain⟨E,e,T⟩:=h.2.2 Ad;have Z:ps.length=n:=by have:=h.1;rw[BZ Ig]at this;omega
 have H:ps[k]? =some ps[k]:=zr Ad;generalize ps[k]=p at H;obtain⟨a,b⟩:=p;have J:∀j u,(Ly (a,b))[j]? =some u->w.cell? (E.add (k*2+j))=some u:=λj u O=>by
  refine T _ u ?_;have U:j<2:=by have:=(zl.1 O).1;rwa[Ig]at this
  rw[D2 Ig H U];exact O
 refine⟨E,a,b,e,H,J 0 _ rfl,?_⟩;have:=J 1 _ rfl;rwa[<-abe,show∀q:Addr,q.add 1=⟨q.block,q.off+1,none⟩fromλq=>by unfold Addr.add;rw[zo Ax]]at this
def I4.ext{w W:Aj}{za m:Nat}{A:AD}{vs:List Aw}{M:AT}(h:I4 w za A m vs M)(E:Ae w W):I4 W za A m vs M:=⟨h.1.ext E,h.2.1,λj xs H=>let⟨u,e,J⟩:=h.2.2 j xs H;⟨u,e,J.ext E⟩⟩
def AeZ(za:Nat)(xs:An)(v:Aw)(W:Aj):Prop:=∃A n c,v=.slice A n c/\Ay W za (.slice A n c) xs
def Afg(za:Nat)(xs:An)(v:Aw)(W:Aj):Prop:=∃A c vs,v=.slice A 1 c/\I4 W za A 1 vs [xs]
def Ajm(u:Aj)(za:Nat)(L:AT)(v:Aw)(W:Aj):Prop:=∃A n c,v=.slice A n c/\AW W za (.slice A n c) L/\Ae u W
def Ajk(u:Aj)(g:Nat)(t:TypeId)(E:Ck)(za:Nat)(L:AT)(v:Aw)(W:Aj):Prop:=Ajm u za L v W/\Aq W g t E
def AeZ.ext{za:Nat}{xs:An}{v:Aw}{W W':Aj}(h:AeZ za xs v W)(u:Ae W W'):AeZ za xs v W':=let⟨A,n,c,e,h⟩:=h;⟨A,n,c,e,h.ext u⟩
def Afg.ext{za:Nat}{xs:An}{v:Aw}{W W':Aj}(h:Afg za xs v W)(u:Ae W W'):Afg za xs v W':=let⟨A,c,vs,e,h⟩:=h;⟨A,c,vs,e,h.ext u⟩
def Tp(n i j x y:Nat):AT:=(List.range y).map λb=>[-Cx n i x,-Cx n j b]
def Aav(n i j x:Nat):AT:=(List.range x).flatMap λa=>Tp n i j a a
def Ady(n i j x y:Nat):Tp n i j x (y+1)=Tp n i j x y++[[-Cx n i x,-Cx n j y]]:=by unfold Tp;rw[xi,yo];rfl
def AfZ{n i j:Nat}(h:i≠j):Aav n i j n=EN n (i,j):=by unfold Aav Tp EN;rw[zo h]
def VF(n S m c:Nat)(A:AD)(ps:List (Nat×Nat))(w:Aj)(ae:n<=4)(ay:1<=S/\S<=32)(az:NX w A m ps)(bS:m<=1000)(aL:∀p∈ps,p.1<n/\p.2<n):AC 21 #[.agg #[n,S],.slice A m c] w (MJ (Gk n ps) w):=by
 have ab:Ae w (w.alloc (.cells #[n,S] 67)):=(Ae.refl _).alloc _;have hb:=Aq.new w 67 #[n,S];generalize a8:w.alloc (.cells #[n,S] 67)=a9 at *;have al:=hb.cell 0;have ba:=hb.cell 1;have bc:=zk ab;have bd:=zk hb;have be:=zk az;have bf:=zk aL;have bh:Hid (ps.length=m):=zk (by have:=az.1;rw[BZ Ig]at this;omega);clear ab hb az aL;go_enter func21,ntmps21;go_wp2_with fail
 refine(EL n S a9 ae ay).mono ?_;rintro e H⟨rfl,aA⟩;have aB:=zk (bc.trans aA);have ac:=zk (bd.ext aA);clear aA a8 al ba;go_wp2;go_loopw[6,17](λv i wr=>∃(k:Nat)(L:AT),k<=m/\i=k/\AW wr H v L/\L=(ps.take k).flatMap (EN n)/\L.length<=100*k/\Ae H wr)(λ_ i _=>m-(intOf i).toNat);case atStart=>exact⟨0,[],zx _,rfl,AW.nil _ _,AG,AG,Ae.refl _⟩
 case round=>
  obtain⟨k,L,bT,rfl,J,O,bU,E⟩:=hrel;have aC:=zk J;have aD:=zk O;have bi:=zk E;by_cases bj:k<m
  . obtain⟨bV,i,j,rfl,am,bk,bn⟩:=NX.at_ (be.ext (aB.trans E)) bj;obtain⟨hi,an⟩:=bf _ (zm am);dsimp only at hi an;have bW:=zk am;have aM:Hid ((ps.take (k+1)).flatMap (EN n)=(ps.take k).flatMap (EN n)++EN n (i,j)):=zk (by rw[AM am,y4];simp);have bX:(k:Int)<(m:Int):=Ad;have bY:(0:Int)<=(k:Int):=Ad;have ao:=Aq.new wr 149 #[i,j];have aq:Ae wr (wr.alloc (.cells #[i,j] 149)):=(Ae.refl wr).alloc _;generalize br:wr.alloc (.cells #[i,j] 149)=bZ at *;have al:=aq.cell (E.cell (ac.cell 0));have d0:=ao.cell 0;have d1:=ao.cell 1;have aE:=zk ao;have aN:=zk (E.trans aq);have bt:=zk (aC.ext aq);have aO:=λW=>X8 i j n W hi an;have bu:=zk aO;clear am J O E aq ao aO;go_wp2_with fail
    refine(bu _).mono ?_;rintro e w2⟨rfl,U⟩;have al:=U.cell (aN.cell (ac.cell 0));have d0:=U.cell (aE.cell 0);have d1:=U.cell (aE.cell 1);have aP:=zk (aN.trans U);have bw:=zk (aE.ext U);have aQ:=zk (bt.ext U);clear U br bk bn;generalize wr=aF at *;by_cases ad:i=j
    . have af:decide (i=j)=true:=zt ad;rw[af];have aG:Hid (EN n (i,j)=[]):=zk (by unfold EN;rw[zq ad]);clear af ad;go_wp2;go_roundw;case rel=>exact⟨k+1,L,Ad,by go_num,aQ,by rw[aM.out,aG.out,yg];exact aD,Ad,aP⟩
      case measure=>simp[intOf];omega
    . have af:decide (i=j)=false:=zn ad;rw[af];have aG:=zk (AfZ (n:=n) ad);clear af ad;go_wp2;clear al d0 d1;go_loopw[6,28](λv V wr=>∃(x:Nat)(M:AT),x<=n/\V=x/\AW wr H v (L++M)/\M=Aav n i j x/\M.length<=4*x/\Ae H wr/\Aq wr aF 149 #[i,j])(λ_ V _=>n-(intOf V).toNat);case atStart=>exact⟨0,[],zx _,rfl,by rw[yg];exact aQ,by simp[Aav],AG,aP,bw⟩
      case round=>
       obtain⟨x,M,b0,rfl,J,O,b1,E,ag⟩:=hrel;have aR:=zk J;have aS:=zk O;have aT:=zk E;have bx:=zk ag;clear ag;by_cases aU:x<n
       . clear J O E;go_wp2;go_loopw[6,32](λv V wr=>∃(y:Nat)(T:AT),y<=x/\V=y/\AW wr H v (L++M++T)/\T=Tp n i j x y/\T.length<=y/\Ae H wr/\Aq wr aF 149 #[i,j])(λ_ V _=>x-(intOf V).toNat);case atStart=>exact⟨0,[],zx _,rfl,by rw[yg];exact aR,by simp[Tp],AG,aT,bx⟩
         case round=>
          obtain⟨y,T,b2,rfl,J,O,b3,E,ag⟩:=hrel;have aV:=zk J;have aW:=zk O;have bz:=zk E;have au:=zk ag;clear ag;by_cases b4:y<x
          . have d0:=λW'(u:Ae wr W')=>u.cell (au.cell 0);have d1:=λW'(u:Ae wr W')=>u.cell (au.cell 1);have aX:∀W,Ae wr W->_:=λW u=>Afj n S i x w W ae ay hi aU (u.cell (E.cell (ac.cell 0))) (u.cell (E.cell (ac.cell 1)));have aY:∀W,Ae wr W->_:=λW u=>Afj n S j y w W ae ay an Ad (u.cell (E.cell (ac.cell 0))) (u.cell (E.cell (ac.cell 1)));have bA:=Qj ae hi aU;have bB:=Qj (b:=y) ae an Ad;have bC:=zk (Ady n i j x y);generalize Cx n i x=Z at *;generalize Cx n j y=aa at *;have bD:IntKind.i64.wrap (-Z)=-Z:=z5 _ Ad;have b5:IntKind.i64.wrap (-aa)=-aa:=z5 _ Ad;have b6:(y:Int)<(x:Int):=Ad;have bE:=zk aX;have bF:=zk aY;have aZ:=zk E;clear J O E aX aY bA bB;go_wp2_with fail
            refine Ea [(48,AeZ H [-Z,-aa]),(49,Afg H [-Z,-aa])] (Ajk H aF 149 #[i,j] H (L++M++T++[[-Z,-aa]])) (n:=15) (m:=16) (dk:=50) AJ rfl rfl rfl rfl (.cons (λ_ _ _ h ab=>h.ext ab) (.cons (λ_ _ _ h ab=>h.ext ab) .nil)) ?_;simp only[List.take_succ_cons,List.take_zero,xp,aai];(repeat apply Ep rfl rfl (λW u=>Am) Am);apply KT rfl (λW u=>bE W u) rfl (λW u=>by go_simp) Am;(repeat apply Ep rfl rfl (λW u=>Am) Am);apply KT rfl (λW u=>bF W u) rfl (λW u=>by go_simp) Am;(repeat apply Ep rfl rfl (λW u=>Am) Am);refine Di 48 _ (by rfl) rfl rfl (by rfl) (λW' σ u ah=>?_) Am ?_;simp only[AQ];exact .inl ⟨_,_,by go_simp,by grind,_,_,_,rfl,(Uq _ _ _).less (aZ.trans u).size⟩;refine Di 49 _ (by rfl) rfl rfl (by rfl) (λW' σ u ah=>?_) Am ?_;obtain⟨A',n',c',av,aw⟩:=ah 48 _ rfl AJ;simp only[AQ,av];exact .inl ⟨.slice W' 1 1,_,by go_simp,by grind,_,_,_,rfl,Ho W' _ _ _ _ _ aw⟩;refine AN ⟨λW' σ u ah=>?_,λσ v bD bG=>?_⟩;obtain⟨A',c',vs,av,aw⟩:=ah 49 _ rfl;simp only[AQ,av];have bH:=zk aw;have a1:=zk (aZ.trans u);have a5:=zk (aV.ext u);have a6:=zk (au.ext u);clear u ah av aw d0 d1;go_wp2_with(at_builtin;refine EM _ rfl (.tmp 35) (.tmp 49) rfl H _ (L++M++T) rfl a5.out _ _ _ _ [[-Z,-aa]] rfl bH.out Ca a1.out.size ?_;intro aH aI aJ bI aj aK ak _;have bJ:=zk aj;have bK:Hid (Ae H bI):=Ae.grown a1.out aK ak;have bL:=zk (a6.out.grown aK (λe=>a5.out.ai a6.out Ax e.symm));clear aj aK ak)
            exact Cp (.slice aH aI aJ) rfl ⟨⟨aH,aI,aJ,rfl,by have h:=bJ.out;simp only[yy]at h⊢;exact h,bK⟩,bL⟩;obtain⟨⟨aH,aI,aJ,rfl,aj,a7⟩,ak⟩:=bG;simp only[AQ];(repeat(first|(apply PU rfl (λW=>Am) Am)|(apply EC rfl Am)));refine Eg λb7 ax=>?_;have bM:=zk (aj.ext ax);have bN:=zk (a7.trans ax);have bO:=zk (ak.ext ax);clear aj a7 ax ak;go_wp2;exact⟨⟨y+1,T++[[-Z,-aa]],Ad,by go_num,by have h:=bM.out;simp only[yy]at h⊢;exact h,by rw[bC.out,aW.out],Ca,bN,bO⟩,by simp[intOf];omega⟩
          obtain rfl:x=y:=Ad;clear J O E;go_wp2;go_roundw;case rel=>exact⟨x+1,M++T,Ad,by go_num,by rw[<-yy];exact aV,by rw[aS.out,aW.out];unfold Aav;rw[xi,y4];simp,Ca,bz,au⟩
          case measure=>simp[intOf];omega
       obtain rfl:n=x:=Ad;clear J O E;go_wp2;go_roundw;case rel=>exact⟨k+1,L++M,Ad,by go_num,aR,by rw[aM.out,aD.out,aS.out,aG.out],Ca,aT⟩
       case measure=>simp[intOf];omega
  obtain rfl:m=k:=Ad;clear J O E;go_wp2;go_ret;obtain⟨bP,bQ,bR,e,_⟩:=aC.form;subst e;have:=aC.out;rw[aD.out,z1 (by have:=bh.out;omega)]at this;exact⟨bP,bQ,bR,rfl,this.less (Ae.size_le aB),aB.trans bi⟩
def Pc(n S a b:Nat)(k:Int)(p:Addr)(w:World)(u:n<=4)(E:1<=S/\S<=32)(H:1<=k/\k<=3)(J:(a:Int)<(Cj n S k).2.2)(hb:(b:Int)<(Cj n S k).2.1)(T:w.cell? p=some (.int .i64 (n:Int)))(U:w.cell? ⟨p.block,p.off+1,none⟩=some (.int .i64 (S:Int))):Calls prog 134 #[k,a,b,.pointer (some p)] w λe w'=>e=.returned (NL n S k a b)/\Ae w w':=by
 go_enter func134,ntmps134;go_wp2_with fail
 refine(I5 n S k a b w u E H J hb).mono ?_;rintro e V⟨rfl,O⟩;go_wp2;go_ret;exact⟨rfl,O⟩
def AbA(n S:Nat)(w:Aj):AC 73 #[.agg #[n,S]] w λe w'=>e=.returned (.func (.func 134) #[] #[.pointer w])/\Aq w' w 67 #[n,S]/\Ae w w':=by go_enter func73,ntmps73;go_wp2;go_ret;exact⟨rfl,Aq.new w _ _,by grind⟩
def Ih(zc:List Ba)(x:AZ)(s:Int):Int×Bool:=match Dq zc x s with|some u=>(u,true)|none=>(0,false)
def TB(zc:List Ba)(x:AZ)(s:Int)(w:Aj)(e:Bz)(w':Aj):Prop:=e=.returned (.tuple #[(Ih zc x s).1,.bool (Ih zc x s).2])/\Ae w w'
def Xa(S K zj:Int)(A:AD)(n c:Nat)(zc:List Ba)(H u J E rs s:Int)(w:Aj)(h:Bi w A n zc)(ah:n<=1000000000):AC 74 #[.agg #[S,K,zj,.slice A n c],.agg #[H,u,J,E,rs],s] w (TB zc ⟨H,u,J,E,rs⟩ s w):=by
 have ae:Ae w ((w.alloc (.cells #[S,K,zj,.slice A n c] 159)).alloc (.cells #[H,u,J,E,rs] 96)):=((Ae.refl _).alloc _).alloc _;have V:=(Aq.new w 159 #[S,K,zj,.slice A n c]).alloc (.cells #[H,u,J,E,rs] 96);have aa:=Aq.new (w.alloc (.cells #[S,K,zj,.slice A n c] 159)) 96 #[H,u,J,E,rs];rw[z3]at aa;generalize aj:(w.alloc (.cells #[S,K,zj,.slice A n c] 159)).alloc (.cells #[H,u,J,E,rs] 96)=ak at *;have al:=V.cell 0;have am:=V.cell 1;have an:=V.cell 2;have ao:=V.cell 3;have d1:=aa.cell 1;have aq:=Pb S K zj s u A n c zc ak (h.ext ae) ah;have au:=ae;have ag:=aa;clear h ae V aa;go_enter func74,ntmps74;go_wp2_with fail
 refine aq.mono ?_;rintro e av⟨rfl,ab⟩;have d3:=ab.cell (ag.cell 3);have d4:=ab.cell (ag.cell 4);have ac:=au.trans ab;clear ab al am an ao d1 aj;cases O:DT zc s u with
 |none=>
  have T:IB zc s u=(0,0,false):=by unfold IB;rw[O]
  have U:Hid (Ih zc ⟨H,u,J,E,rs⟩ s=(0,false)):=zk (by unfold Ih Dq;simp only[O]);rw[T];clear O T;go_wp2;go_ret2;exact⟨by rw[U.out];rfl,ac⟩
 |some q=>
  obtain⟨af,r⟩:=q;have T:IB zc s u=(af,r,true):=by unfold IB;rw[O]
  rw[T];by_cases Z:E=-1
  . subst Z;have U:Hid (Ih zc ⟨H,u,J,-1,rs⟩ s=(af,true)):=zk (by unfold Ih Dq;simp only[O];rw[zo (λh=>h.1 rfl)]);clear O T;go_wp2;go_ret2;exact⟨by rw[U.out];rfl,ac⟩
  . have aw:(E !=-1)=true:=by simpa using Z
    by_cases ad:rs=r;subst ad;have U:Hid (Ih zc ⟨H,u,J,E,rs⟩ s=(af,true)):=zk (by unfold Ih Dq;simp only[O];rw[zo (λh=>h.2 rfl)]);clear O T Z;go_wp2;go_ret2;exact⟨by rw[U.out];rfl,ac⟩
    . have ax:(r !=rs)=true:=by have:r≠rs:=λe=>ad e.symm;simpa using this
      have U:Hid (Ih zc ⟨H,u,J,E,rs⟩ s=(0,false)):=zk (by unfold Ih Dq;simp only[O];rw[zq ⟨Z,ad⟩]);clear O T Z ad;go_wp2;go_ret2;exact⟨by rw[U.out];rfl,ac⟩
def AgA(S K zj:Int)(A:AD)(n c:Nat)(zc:List Ba)(u E H J rs s:Int)(w:Aj)(h:Bi w A n zc)(T:n<=1000000000):AC 172 #[.agg #[S,K,zj,.slice A n c],.agg #[u,E,H,J,rs],s] w (TB zc ⟨u,E,H,J,rs⟩ s w):=by
 have O:Ae w ((w.alloc (.cells #[S,K,zj,.slice A n c] 24)).alloc (.cells #[u,E,H,J,rs] 96)):=((Ae.refl _).alloc _).alloc _;go_enter func172,ntmps172;go_wp2_with fail
 refine(Xa S K zj A n c zc u E H J rs s _ (h.ext O) T).mono ?_;rintro e V⟨rfl,U⟩;go_wp2;go_ret2;exact⟨rfl,O.trans U⟩
def H9(x:AZ):List Aw:=[x.aD,x.aq,x.st,x.an,x.aT]
def Li(x:AZ):(H9 x).length=5:=rfl
def Bx(w:Aj)(A:AD)(m:Nat)(l:List AZ):Prop:=BA w A m 5 (l.flatMap H9)
def Bx.len{w:Aj}{A:AD}{n:Nat}{l:List AZ}(h:Bx w A n l):l.length=n:=by have:=h.1;rw[BZ Li]at this;omega
def Bx.ext{w w':Aj}{A:AD}{n:Nat}{l:List AZ}(h:Bx w A n l)(u:Ae w w'):Bx w' A n l:=BA.ext h u
def Bx.at_{w:World}{A:Option Addr}{n k:Nat}{l:List AZ}(h:Bx w A n l)(ad:k<n):∃E H J O T rs,A=some E/\l[k]? =some ⟨H,J,O,T,rs⟩/\w.cell? (E.add (k*5))=some (.int .i64 H)/\w.cell? ⟨(E.add (k*5)).block,(E.add (k*5)).off+1,none⟩=some (.int .i64 J)/\w.cell? ⟨(E.add (k*5)).block,(E.add (k*5)).off+2,none⟩=some (.int .i64 O)/\w.cell? ⟨(E.add (k*5)).block,(E.add (k*5)).off+3,none⟩=some (.int .i64 T)/\w.cell? ⟨(E.add (k*5)).block,(E.add (k*5)).off+4,none⟩=some (.int .i64 rs):=by
 obtain⟨E,e,ab⟩:=h.2.2 Ad;have ae:=h.len;have aa:l[k]? =some l[k]:=zr Ad;generalize l[k]=x at aa;obtain⟨H,J,O,T,rs⟩:=x;have U:∀j u,(H9 ⟨H,J,O,T,rs⟩)[j]? =some u->w.cell? (E.add (k*5+j))=some u:=λj u V=>by
  refine ab _ u ?_;have ac:j<5:=by have:=(zl.1 V).1;rwa[Li]at this
  rw[D2 Li aa ac];exact V
 have Z:∀j:Nat,j≠0->E.add (k*5+j)=⟨(E.add (k*5)).block,(E.add (k*5)).off+j,none⟩:=λj V=>by rw[<-abe];generalize E.add (k*5)=b;unfold Addr.add;rw[zo V]
 refine⟨E,H,J,O,T,rs,e,aa,U 0 _ rfl,?_,?_,?_,?_⟩;rw[<-Z 1 Ax];exact U 1 _ rfl;rw[<-Z 2 Ax];exact U 2 _ rfl;rw[<-Z 3 Ax];exact U 3 _ rfl;rw[<-Z 4 Ax];exact U 4 _ rfl
def Nc(H J O u T U V E Z aa:Int)(w:Aj):AC 69 #[.agg #[H,J,O,u,T],.agg #[U,V,E,Z,aa]] w λe w'=>e=.returned (.bool (Cw ⟨H,J,O,u,T⟩ ⟨U,V,E,Z,aa⟩))/\Ae w w':=by
 unfold Cw;dsimp only;have ad:Ae w ((w.alloc (.cells #[H,J,O,u,T] 96)).alloc (.cells #[U,V,E,Z,aa] 96)):=((Ae.refl _).alloc _).alloc _;have ae:=(Aq.new w 96 #[H,J,O,u,T]).alloc (.cells #[U,V,E,Z,aa] 96);have ab:=Aq.new (w.alloc (.cells #[H,J,O,u,T] 96)) 96 #[U,V,E,Z,aa];rw[z3]at ab;generalize ah:(w.alloc (.cells #[H,J,O,u,T] 96)).alloc (.cells #[U,V,E,Z,aa] 96)=aj at *;have ak:=ae.cell 3;have d2:=ab.cell 2;have ac:=ad;clear ad ae ab;by_cases af:0<=u
 . rw[(zt af)];by_cases ag:u<E
   . rw[(zt ag)];go_enter func69,ntmps69;go_wp2;go_ret;exact⟨rfl,ac⟩
   . rw[(zn ag)];go_enter func69,ntmps69;go_wp2;go_ret;exact⟨rfl,ac⟩
 rw[(zn af)];go_enter func69,ntmps69;go_wp2;go_ret;exact⟨rfl,ac⟩
def Aje:LF 73 149 (.agg #[(),()]) 2 16:=⟨underlying73,AJ,rfl,Ax,Ax⟩
def UW(w:Aj)(b:Nat)(v:Aw)(ps:List (Nat×Nat)):Prop:=AP w b 149 2 v ps.length (ps.flatMap Ly)
def AaN(p:Nat×Nat):∀v∈Ly p,v.oneCell'=true:=by intro v u;simp[Ly]at u;rcases u with rfl|rfl<;>rfl
def IK(l:List AZ)(i y:Nat):List (Nat×Nat):=((List.range y).filter λj=>Cw (opAt l i) (opAt l j)).map λj=>(i,j)
def S4(l:List AZ)(n x:Nat):List (Nat×Nat):=(List.range x).flatMap λi=>IK l i n
def YP(l:List AZ)(i y:Nat):IK l i (y+1)=IK l i y++if Cw (opAt l i) (opAt l y)then[(i,y)]else[]:=by unfold IK;rw[xi,y5,yo];cases h:Cw (opAt l i) (opAt l y)<;>simp[h]
def EO{l:List AZ}{k:Nat}{x:AZ}(h:l[k]? =some x):opAt l k=x:=by unfold opAt;rw[yc,h];rfl
def Ac3(ps:List (Nat×Nat))(w:Aj)(e:Bz)(w':Aj):Prop:=∃A n c,e=.returned (.slice A n c)/\NX w' A n ps/\Ae w w'
def Agp(w:Aj){zf:Array Oper}{rest:List Oper}{o:Oper}{a:Act}{Q:Exit->Act->Aj->Prop}(V:o.guard=none)(s x:Operand) (Z:o.op=.call {callee:=.builtin .append,args:=#[s,x],argTypes:=#[73,73]}) (za:Nat)(v:Aw)(M:List (Nat×Nat))(p:Nat×Nat)(aa:a.eval s=v)(J:UW w za v M)(A:AD)(c:Nat)(ab:a.eval x=.slice A 1 c)(ac:BA w A 1 2 (Ly p))(hb:M.length<=1000000000)(ad:za<=w) (h:∀u E H w',UW w' za (.slice u E H) (M++[p])->w.grownBy w' v.ownBlock->(∀k,v.ownBlock=some k->za<=k)->(∀(g:Nat)(t:TypeId)(O:Ck),Aq w g t O->149≠t->Aq w' g t O)->wpList prog zf Q rest (a.put o.dst (.slice u E H)) w'):wpList prog zf Q (o::rest) a w:=by refine D6 Aje w V s x Z za v M.length (M.flatMap Ly) aa J A 1 c (Ly p) ab ac (AaN p) Ad ad λag w' T U _=>?_;obtain⟨u,E,H,rfl⟩:=AP.form T;refine h u E H w' ?_ U (λk e=>(xy J k e).1) (λg t O hb ae=>hb.grown U (λe=>D3 J hb ae e.symm));unfold UW;rw[zu,y4];simpa using T
def Nd(A:AD)(n c:Nat)(l:List AZ)(w:Aj)(am:Bx w A n l)(br:n<=1000):AC 22 #[.slice A n c] w (Ac3 (Cc l) w):=by
 have aK:=zk am.len;skip;go_enter func22,ntmps22;go_wp2;go_loopw[3,10](λv i wr=>∃(x:Nat)(M:List (Nat×Nat)),x<=n/\i=x/\UW wr w v M/\M=S4 l n x/\M.length<=1000*x/\Ae w wr)(λ_ i _=>n-(intOf i).toNat);case atStart=>exact⟨0,[],zx _,rfl,AP.nil _ _ _ _,by simp[S4],AG,Ae.refl _⟩
 case round=>
  obtain⟨x,M,bt,rfl,U,H,bu,J⟩:=hrel;have aB:=zk H;by_cases aL:x<n
  . obtain⟨bw,V,Z,aa,ab,ac,rfl,ad,an,ao,aq,au,av⟩:=(am.ext J).at_ aL;have aM:=zk (EO ad);have bx:(x:Int)<(n:Int):=Ad;have bz:(0:Int)<=(x:Int):=Ad;have aC:=Aq.new wr 96 #[V,Z,aa,ab,ac];have aw:Ae wr (wr.alloc (.cells #[V,Z,aa,ab,ac] 96)):=(Ae.refl wr).alloc _;generalize aN:wr.alloc (.cells #[V,Z,aa,ab,ac] 96)=bA at *;have aO:=aC;have aP:=J.trans aw;have aQ:=AP.ext U aw;clear ad H aw aC;go_wp2;clear aN an ao aq au av;generalize wr=aR at *;go_loopw[3,17](λv i wr=>∃(y:Nat)(u:List (Nat×Nat)),y<=n/\i=y/\UW wr w v (M++u)/\u=IK l x y/\u.length<=y/\Ae w wr/\Aq wr aR 96 #[V,Z,aa,ab,ac])(λ_ i _=>n-(intOf i).toNat);case atStart=>exact⟨0,[],zx _,rfl,by rw[yg];exact aQ,by simp[IK],AG,aP,aO⟩
    case round=>
     obtain⟨y,u,bB,rfl,U,H,bC,J,O⟩:=hrel;have aS:=zk U;have ax:=zk H;have aT:=zk J;by_cases aU:y<n;obtain⟨bD,ae,af,ag,ah,aj,e,ad,an,ao,aq,au,av⟩:=(am.ext J).at_ aU;cases e;have aV:=zk (EO ad);have bE:(y:Int)<(n:Int):=Ad;have bF:(0:Int)<=(y:Int):=Ad;have E:Ae wr (wr.alloc (.cells #[ae,af,ag,ah,aj] 96)):=(Ae.refl wr).alloc _;have T:=Aq.new wr 96 #[ae,af,ag,ah,aj];generalize aW:wr.alloc (.cells #[ae,af,ag,ah,aj] 96)=aX at *;have aY:=E.cell (O.cell 0);have aZ:=E.cell (O.cell 1);have a1:=E.cell (O.cell 2);have a5:=E.cell (O.cell 3);have a6:=E.cell (O.cell 4);have d0:=T.cell 0;have d1:=T.cell 1;have d2:=T.cell 2;have d3:=T.cell 3;have d4:=T.cell 4;have a7:=J.trans E;have a8:=AP.ext U E;have a9:=O.ext E;clear ad H E T;go_wp2_with fail
     refine(Nc V Z aa ab ac ae af ag ah aj aX).mono ?_;rintro e ay⟨rfl,ak⟩;have az:=a7.trans ak;have aD:=AP.ext a8 ak;have aE:=a9.ext ak;have aF:=zk (YP l x y);rw[<-aM.out,<-aV.out];clear ak aW an ao aq au av aY aZ a1 a5 a6 d0 d1 d2 d3 d4;cases al:Cw (opAt l x) (opAt l y)with
     |false=>
      have aA:Hid (IK l x (y+1)=IK l x y):=zk (by rw[aF.out,al];simp);clear al;go_wp2;go_roundw;case rel=>exact⟨y+1,u,Ad,by go_num,aD,by rw[aA.out];exact ax,Ad,az,aE⟩
      case measure=>simp[intOf];omega
     |true=>
      have aA:Hid (IK l x (y+1)=IK l x y++[(x,y)]):=zk (by rw[aF.out,al];simp);clear al;have aG:=BA.bz ay #[x,y] 149;have ba:(BA (ay.alloc (.cells #[x,y] 149)) ay 1 2 (Ly (x,y))):=aG;have bc:((M++u).length<=1000000000):=by rw[zu];omega
      clear aG;go_wp2_with(at_builtin;refine Agp _ rfl (.tmp 25) (.tmp 29) rfl w _ (M++u) (x,y) rfl (AP.alloc aD _) _ _ rfl ba bc (by have:=az.size;simp;omega) ?_;intro bG bH bI bd be aH aI aJ;have bf:Hid (Ae w bd):=Ae.grown (az.alloc _) aH aI;have bh:=aJ _ _ _ (aE.alloc _) Ax;clear aH aI aJ)
      go_roundw;case rel=>exact⟨y+1,u++[(x,y)],Ad,by go_num,by rw[<-yy];exact be,by rw[aA.out,ax.out],Ca,bf,bh⟩
      case measure=>simp[intOf];omega
     obtain rfl:n=y:=Ad;clear H;go_wp2;go_roundw;case rel=>exact⟨x+1,M++u,Ad,by go_num,aS,by rw[aB.out,ax.out];unfold S4;rw[xi,y4];simp,Ca,aT⟩
     case measure=>simp[intOf];omega
  obtain rfl:n=x:=Ad;clear H;go_wp2;go_ret;obtain⟨bi,bj,e,bk,_⟩:=AP.aC U Ad;subst e;have bn:Cc l=M:=by rw[aB.out];unfold Cc S4 IK;rw[aK.out]
  rw[bn];exact⟨bi,_,bj,rfl,bk,J⟩
def DX(l:List AZ)(x:Nat):An:=((List.range x).filter λi=>(opAt l i).an==-1).map λi=>((i:Nat):Int)
def Y9(l:List AZ)(x:Nat):DX l (x+1)=DX l x++if(opAt l x).an==-1 then[(x:Int)]else[]:=by unfold DX;rw[xi,y5,yo];cases h:(opAt l x).an==-1<;>simp[h]
def V4(A:AD)(n c:Nat)(l:List AZ)(w:Aj)(af:Bx w A n l)(av:n<=1000):AC 208 #[.slice A n c] w (GX (DX l l.length) w):=by
 have al:=zk af.len;skip;go_enter func208,ntmps208;go_wp2;go_loopw[3,8](λv i wr=>∃(x:Nat)(M:An),x<=n/\i=x/\Ay wr w v M/\M=DX l x/\M.length<=x/\Ae w wr)(λ_ i _=>n-(intOf i).toNat);case atStart=>exact⟨0,[],zx _,rfl,Ay.nil _ _,by simp[DX],AG,Ae.refl _⟩
 case round=>
  obtain⟨x,M,aw,rfl,ag,H,ax,J⟩:=hrel;have O:=zk H;by_cases am:x<n;obtain⟨ay,T,U,V,u,Z,rfl,ah,az,aA,aB,aC,aD⟩:=(af.ext J).at_ am;have aa:=zk (Y9 l x);rw[EO ah]at aa;have aE:(x:Int)<(n:Int):=Ad;have aF:(0:Int)<=(x:Int):=Ad;have aj:=Aq.new wr 96 #[T,U,V,u,Z];have ab:Ae wr (wr.alloc (.cells #[T,U,V,u,Z] 96)):=(Ae.refl wr).alloc _;generalize aG:wr.alloc (.cells #[T,U,V,u,Z] 96)=aH at *;have d3:=aj.cell 3;have ac:=J.trans ab;have ad:=ag.ext ab;clear ah H ab aj;by_cases E:u=-1;subst E;have ae:Hid (DX l (x+1)=DX l x++[(x:Int)]):=aa;go_wp2_with(at_builtin;refine BW _ rfl (.tmp 16) (.tmp 18) rfl w _ M rfl (ad.alloc _) _ _ (x:Int) rfl (BD _ _ _) Ad Ad (by have:=ac.size;simp;omega) ?_;intro v4 an ao ak _;have aq:Hid (Ae w an):=Ae.grown (ac.alloc _) ak (λj au=>(ad.J j au).1);clear ak)
  go_roundw;case rel=>exact⟨x+1,M++[(x:Int)],Ad,by go_num,ao,by rw[ae.out,O.out],Ca,aq⟩
  case measure=>simp[intOf];omega
  have aI:(u==-1)=false:=by simpa using E
  have ae:Hid (DX l (x+1)=DX l x):=zk (by rw[aa.out];simp[E]);clear E;go_wp2;go_roundw;case rel=>exact⟨x+1,M,Ad,by go_num,ad,by rw[ae.out];exact O,Ad,ac⟩
  case measure=>simp[intOf];omega
  obtain rfl:n=x:=Ad;clear H;go_wp2;go_ret;exact⟨_,rfl,by rw[al.out,<-O.out];exact ag,J⟩
def Un(E u rs:Int):Prop:=(u=-1/\rs=-1)\/(E<u/\u<=9999/\0<=rs/\rs<=1000000)
def Sr(x:AZ):Prop:=(1<=x.aD/\x.aD<=1000)/\(0<=x.st/\x.st<=9999)/\(0<=x.aq/\x.aq<64)/\Un x.st x.an x.aT
def Ajd(P:Prop)(w:Aj)(e:Bz)(w':Aj):Prop:=∃b:Bool,e=.returned b/\(b=true↔P)/\Ae w w'
def Zv(V Z E u rs:Int)(w:Aj)(ab:0<=E):AC 202 #[.agg #[V,Z,E,u,rs]] w (Ajd (Un E u rs) w):=by
 by_cases H:u=-1
 . subst H;by_cases O:rs=-1
   . subst O;go_enter func202,ntmps202;go_wp2;go_ret;exact⟨true,rfl,⟨λ_=>.inl ⟨rfl,rfl⟩,λ_=>rfl⟩,by grind⟩
   . have d0:(rs==-1)=false:=by simpa using O
     skip;go_enter func202,ntmps202;go_wp2;go_ret;exact⟨false,rfl,⟨λH=>(by cases H),λH=>by rcases H with H|H;exact absurd H.2 O;omega⟩,by grind⟩
 . have d0:(u==-1)=false:=by simpa using H
   skip;by_cases t0:E<u;rotate_left
   . have d1:decide (E<u)=false:=zn t0;have J:=zk t0;clear t0;go_enter func202,ntmps202;go_wp2;go_ret;exact⟨false,rfl,⟨λh=>(by cases h),λh=>by rcases h with h|h;exact absurd h.1 H;(have T:=h.1;have U:=J.out;omega)⟩,by grind⟩
   have d1:decide (E<u)=true:=zt t0;by_cases t1:u<=9999;rotate_left
   . have d2:decide (u<=9999)=false:=zn t1;have J:=zk t1;clear t1 t0;go_enter func202,ntmps202;go_wp2;go_ret;exact⟨false,rfl,⟨λh=>(by cases h),λh=>by rcases h with h|h;exact absurd h.1 H;(have T:=h.2.1;have U:=J.out;omega)⟩,by grind⟩
   have d2:decide (u<=9999)=true:=zt t1;by_cases t2:0<=rs;rotate_left
   . have d3:decide (0<=rs)=false:=zn t2;have J:=zk t2;clear t2 t0 t1;go_enter func202,ntmps202;go_wp2;go_ret;exact⟨false,rfl,⟨λh=>(by cases h),λh=>by rcases h with h|h;exact absurd h.1 H;(have T:=h.2.2.1;have U:=J.out;omega)⟩,by grind⟩
   have d3:decide (0<=rs)=true:=zt t2;by_cases t3:rs<=1000000;rotate_left
   . have d4:decide (rs<=1000000)=false:=zn t3;have J:=zk t3;clear t3 t0 t1 t2;go_enter func202,ntmps202;go_wp2;go_ret;exact⟨false,rfl,⟨λh=>(by cases h),λh=>by rcases h with h|h;exact absurd h.1 H;(have T:=h.2.2.2;have U:=J.out;omega)⟩,by grind⟩
   have d4:decide (rs<=1000000)=true:=zt t3;have aa:(Un E u rs):=.inr ⟨t0,t1,t2,t3⟩;clear t0 t1 t2 t3;go_enter func202,ntmps202;go_wp2;go_ret;exact⟨true,rfl,⟨λ_=>aa,λ_=>rfl⟩,by grind⟩
def Acu(Z aa E ab rs:Int)(w:Aj):AC 132 #[.agg #[Z,aa,E,ab,rs]] w (Aaw (Sr ⟨Z,aa,E,ab,rs⟩) w):=by
 by_cases t0:Z<1
 . have d0:decide (Z<1)=true:=zt t0;have u:=zk t0;clear t0;go_enter func132,ntmps132;go_wp2;go_ret;exact⟨2,rfl,⟨λh=>(by cases h),λh=>by have:=u.out;obtain⟨⟨H,J⟩,⟨O,T⟩,⟨U,V⟩,_⟩:=h;dsimp only at H J O T U V;omega⟩,by grind⟩
 have d0:decide (Z<1)=false:=zn t0;by_cases t1:1000<Z
 . have d1:decide (1000<Z)=true:=zt t1;have u:=zk t1;clear t1 t0;go_enter func132,ntmps132;go_wp2;go_ret;exact⟨2,rfl,⟨λh=>(by cases h),λh=>by have:=u.out;obtain⟨⟨H,J⟩,⟨O,T⟩,⟨U,V⟩,_⟩:=h;dsimp only at H J O T U V;omega⟩,by grind⟩
 have d1:decide (1000<Z)=false:=zn t1;by_cases t2:E<0
 . have d2:decide (E<0)=true:=zt t2;have u:=zk t2;clear t2 t0 t1;go_enter func132,ntmps132;go_wp2;go_ret;exact⟨2,rfl,⟨λh=>(by cases h),λh=>by have:=u.out;obtain⟨⟨H,J⟩,⟨O,T⟩,⟨U,V⟩,_⟩:=h;dsimp only at H J O T U V;omega⟩,by grind⟩
 have d2:decide (E<0)=false:=zn t2;by_cases t3:9999<E
 . have d3:decide (9999<E)=true:=zt t3;have u:=zk t3;clear t3 t0 t1 t2;go_enter func132,ntmps132;go_wp2;go_ret;exact⟨2,rfl,⟨λh=>(by cases h),λh=>by have:=u.out;obtain⟨⟨H,J⟩,⟨O,T⟩,⟨U,V⟩,_⟩:=h;dsimp only at H J O T U V;omega⟩,by grind⟩
 have d3:decide (9999<E)=false:=zn t3;by_cases t4:aa<0
 . have d4:decide (aa<0)=true:=zt t4;have u:=zk t4;clear t4 t0 t1 t2 t3;go_enter func132,ntmps132;go_wp2;go_ret;exact⟨31,rfl,⟨λh=>(by cases h),λh=>by have:=u.out;obtain⟨⟨H,J⟩,⟨O,T⟩,⟨U,V⟩,_⟩:=h;dsimp only at H J O T U V;omega⟩,by grind⟩
 have d4:decide (aa<0)=false:=zn t4;by_cases t5:64<=aa
 . have d5:decide (64<=aa)=true:=zt t5;have u:=zk t5;clear t5 t0 t1 t2 t3 t4;go_enter func132,ntmps132;go_wp2;go_ret;exact⟨31,rfl,⟨λh=>(by cases h),λh=>by have:=u.out;obtain⟨⟨H,J⟩,⟨O,T⟩,⟨U,V⟩,_⟩:=h;dsimp only at H J O T U V;omega⟩,by grind⟩
 have d5:decide (64<=aa)=false:=zn t5;have ad:(Un E ab rs->Sr ⟨Z,aa,E,ab,rs⟩):=λh=>⟨⟨by dsimp only;omega,by dsimp only;omega⟩,⟨by dsimp only;omega,by dsimp only;omega⟩,⟨by dsimp only;omega,by dsimp only;omega⟩,h⟩;have ae:=λW=>Zv Z aa E ab rs W Ad;clear t0 t1 t2 t3 t4 t5;go_enter func132,ntmps132;go_wp2_with fail
 refine(ae _).mono ?_;rintro e af⟨b,rfl,hb,ac⟩;skip;cases b with
 |true=> have u:=zk (ad (hb.1 rfl));clear hb;go_wp2;go_ret;exact⟨0,rfl,⟨λ_=>u,λ_=>rfl⟩,Ae.trans (by grind) ac⟩
 |false=> have u:Hid (¬Un E ab rs):=zk λh=>(by have:=hb.2 h;cases this);clear hb;go_wp2;go_ret;exact⟨7,rfl,⟨λh=>(by cases h),λh=>absurd h.2.2.2 u⟩,Ae.trans (by grind) ac⟩
def Iw(w:Aj)(A:AD)(n:Nat)(u:List AT):Prop:=u.length=n/\(0<n->∃E,A=some E/\∀(j:Nat)(L:AT),u[j]? =some L->∃A' n' c',w.cell? (E.add j)=some (.slice A' n' c')/\Bf w A' n' L)
def Iw.ext{w w':Aj}{A:AD}{n:Nat}{u:List AT}(h:Iw w A n u)(E:Ae w w'):Iw w' A n u:=⟨h.1,λH=>let⟨J,e,O⟩:=h.2 H;⟨J,e,λj L T=>let⟨A',n',c',U,V⟩:=O j L T;⟨A',n',c',E.cell U,V.ext E⟩⟩⟩
def Iw.at_{w:Aj}{A:AD}{n k:Nat}{E:List AT}(h:Iw w A n E)(V:k<n):∃u L A' n' c',A=some u/\E[k]? =some L/\w.cell? (u.add k)=some (.slice A' n' c')/\Bf w A' n' L:=by
 obtain⟨u,e,J⟩:=h.2 Ad;have O:k<E.length:=by have:=h.1;omega
 have H:=zr O;obtain⟨A',n',c',T,U⟩:=J k _ H;exact⟨u,_,A',n',c',e,H,T,U⟩
def AcH(A:AD)(n c:Nat)(O:List AT)(w:Aj)(af:Iw w A n O)(aS:n<=100)(av:∀L∈O,L.length<=1000000/\∀xs∈L,xs.length<=1000000):AC 19 #[.slice A n c] w (MJ O.flatten w):=by
 have aw:=zk af.1;skip;go_enter func19,ntmps19;go_wp2;go_loopw[3,10](λv i wr=>∃(k:Nat)(M:AT),k<=n/\i=k/\AW wr w v M/\M=(O.take k).flatten/\M.length<=1000000*k/\Ae w wr)(λ_ i _=>n-(intOf i).toNat);case atStart=>exact⟨0,[],zx _,rfl,AW.nil _ _,AG,AG,Ae.refl _⟩
 case round=>
  obtain⟨k,M,aT,rfl,J,E,aU,H⟩:=hrel;have ag:=zk E;by_cases ax:k<n
  . obtain⟨aV,L,A',n',c',rfl,T,U,ah⟩:=af.at_ ax;have U:=H.cell U;have V:=av L (zm T);have aj:=ah.1;have ay:=V.2;have az:=zk (AM T);have ak:=V.1;have Z:=zk aj;have aW:(k:Int)<(n:Int):=Ad;have aX:(0:Int)<=(k:Int):=Ad;have aY:n'<=1000000:=Ad;clear E T V aj;go_wp2;clear U;go_loopw[3,16](λv i al=>∃(y:Nat)(u:AT),y<=n'/\i=y/\AW al w v (M++u)/\u=L.take y/\u.length<=y/\Ae w al)(λ_ i _=>n'-(intOf i).toNat);case atStart=>exact⟨0,[],zx _,rfl,by rw[yg];exact J,AG,AG,H⟩
    case round=>
     obtain⟨y,u,aZ,rfl,J,E,a1,H⟩:=hrel;have am:=zk J;have an:=zk E;have aa:=zk H;by_cases aA:y<n';obtain⟨a5,xs,aB,aC,aD,rfl,ab,aE,ac⟩:=(ah.ext H).at_ aA;have aF:=zk (AM ab);have aG:=ay xs (zm ab);have aH:=ac.1;have aI:=Fm aB aC aD xs wr ac Ad;have a6:(y:Int)<(n':Int):=Ad;have a7:(0:Int)<=(y:Int):=Ad;clear E ab ac aH aG;go_wp2_with fail
     refine aI.mono ?_;rintro e a8⟨v,rfl,ad,ae⟩;obtain⟨a9,ba,bc,rfl⟩:=ad.form;have aJ:=Ay.less ad aa.size;have aK:=am.ext ae;have ao:=aa.trans ae;have aL:((M++u).length+1<=1000000000000):=by have:=Z.out;have:=ak;rw[zu];omega
     clear ad ae aE;go_wp2_with(at_builtin;refine EM _ rfl (.tmp 20) (.tmp 23) rfl w _ (M++u) rfl (aK.ext ((Ae.refl _).alloc _)) _ _ _ _ [xs] rfl (Ho _ w _ _ _ _ aJ) aL (by have:=ao.size;simp;omega) ?_;intro bd be bf aM aN aq au _;have aO:Hid (Ae w aM):=Ae.grown (ao.alloc _) aq au;clear aq au)
     go_roundw;case rel=>exact⟨y+1,u++[xs],Ad,by go_num,by rw[<-yy];exact aN,by rw[aF.out,an.out],Ca,aO⟩
     case measure=>simp[intOf];omega
     obtain rfl:n'=y:=Ad;clear E;go_wp2;go_roundw;case rel=>exact⟨k+1,M++u,Ad,by go_num,am,by rw[az.out,List.flatten_append,ag.out,an.out,show L.take n'=L from z1 (by have:=Z.out;omega)];simp,by have:=Z.out;have:=ak;simp;omega,aa⟩
     case measure=>simp[intOf];omega
  obtain rfl:n=k:=Ad;clear E;go_wp2;go_ret;obtain⟨aP,aQ,aR,e,_⟩:=J.form;subst e;have:=J;rw[ag.out,z1 (by have:=aw.out;omega)]at this;exact⟨aP,aQ,aR,rfl,this,H⟩
def LV(n S:Nat)(w:Aj)(u:n<=4)(E:1<=S/\S<=32):AC 203 #[.agg #[n,S]] w λe w'=>e=.returned true/\Ae w w':=by
 go_enter func203,ntmps203;go_wp2_with fail
 refine(EL n S _ u E).mono ?_;rintro e J⟨rfl,H⟩;go_wp2;go_ret;exact⟨rfl,Ae.trans (by grind) H⟩
def Em(k:Nat):Nat:=k*(k-1)/2
def Qx(k:Nat)(w:Aj)(J:k<=64):AC 287 #[k] w λe w'=>e=.returned (.int .i64 (Em k:Nat))/\w'=w:=by
 obtain⟨m,E,u,O⟩:∃m:Int,(k:Int)*((k:Int)-1)=m/\0<=m/\m<=4096:=by
  refine⟨_,rfl,?_,?_⟩;rcases xe k with e|e;subst e;simp;exact Int.mul_nonneg Ad Ad;have:(k:Int)*((k:Int)-1)<=64*64:=by rcases xe k with e|e;subst e;simp;exact Int.mul_le_mul Ad Ad Ad Ad
  omega
 have H:Hid (m.tdiv 2=((Em k:Nat):Int)):=zk (by rw[abz u,<-E];unfold Em;rcases xe k with e|e;subst e;rfl;rw[Int.natCast_ediv,aam,Int.natCast_sub e];rfl);have T:IntKind.i64.wrap (m.tdiv 2)=m.tdiv 2:=z5 _ (by rw[abz u];omega);go_enter func287,ntmps287;go_wp2;go_ret;exact⟨by rw[<-H.out];rfl,rfl⟩
def NT{k:Nat}(h:k<=4):Em k<=6:=by unfold Em;have:k*(k-1)<=4*3:=ym h Ad;omega
def AaZ(n S p:Nat)(w:Aj)(E:n<=4)(O:1<=S/\S<=32)(T:p<=2016):AC 205 #[.agg #[n,S],p] w λe w'=>e=.returned (.int .i64 (p*Em n:Nat))/\Ae w w':=by
 have H:Ae w (w.alloc (.cells #[n,S] 67)):=(Ae.refl _).alloc _;have hb:=Aq.new w 67 #[n,S];generalize U:w.alloc (.cells #[n,S] 67)=V at *;have Z:=hb.cell 0;have aa:=hb.cell 1;have d1:decide ((p:Int)<0)=false:=zn Ad;have d2:decide ((2016:Int)<(p:Int))=false:=zn Ad;have ae:IntKind.i64.wrap ((p:Int)*((Em n:Nat):Int))=((p*Em n:Nat):Int):=by rw[<-aam];have:p*Em n<=2016*6:=ym T (NT E);exact z5 _ Ad
 have ab:=H;have J:=hb;clear H hb;go_enter func205,ntmps205;go_wp2_with fail
 refine(LV n S V E O).mono ?_;rintro e ac⟨rfl,u⟩;have Z:=u.cell (J.cell 0);have aa:=u.cell (J.cell 1);have ad:=ab.trans u;clear u U;go_wp2_with fail
 refine(Qx n ac Ad).mono ?_;rintro e w2⟨rfl,rfl⟩;go_wp2;go_ret;exact⟨rfl,ad⟩
def Abz(n S d:Nat)(w:Aj)(H:n<=4)(J:1<=S/\S<=32)(Z:d<=n):AC 207 #[.agg #[n,S],d] w λe w'=>e=.returned (.int .i64 (d*(1+n*S)+(n-d)*2*(n*S):Nat))/\Ae w w':=by
 have O:Ae w (w.alloc (.cells #[n,S] 67)):=(Ae.refl _).alloc _;have hb:=Aq.new w 67 #[n,S];generalize aa:w.alloc (.cells #[n,S] 67)=ab at *;have ac:=hb.cell 0;have ad:=hb.cell 1;have d1:decide ((d:Int)<0)=false:=zn Ad;have d2:decide ((n:Int)<(d:Int))=false:=zn Ad;obtain⟨r,u⟩:∃r,n*S=r:=⟨_,rfl⟩;have ae:r<=128:=by rw[<-u];exact ym H J.2
 have al:IntKind.i64.wrap ((n:Int)*(S:Int))=(r:Int):=by rw[<-aam,u];exact z5 _ Ad
 have af:d*(1+r)<=4*129:=ym Ad Ad;have ag:(n-d)*2*r<=8*128:=ym Ad ae;have T:(d:Int)*(1+(r:Int))=((d*(1+r):Nat):Int):=by rw[aam];rfl
 have U:((n:Int)-(d:Int))*2*(r:Int)=(((n-d)*2*r:Nat):Int):=by rw[aam,aam,Int.natCast_sub Z];rfl
 have ah:Hid (wrap64 (wrap64 ((d:Int)*(1+(r:Int)))+wrap64 (((n:Int)-(d:Int))*2*(r:Int)))=((d*(1+r)+(n-d)*2*r:Nat):Int)):=zk (by rw[T,U,abk ((d*(1+r):Nat):Int) Ad,abk (((n-d)*2*r:Nat):Int) Ad,abk _ Ad];omega);rw[u];have aj:=O;have V:=hb;clear O hb af ag T U u;go_enter func207,ntmps207;go_wp2_with fail
 refine(LV n S ab H J).mono ?_;rintro e am⟨rfl,E⟩;have ac:=E.cell (V.cell 0);have ad:=E.cell (V.cell 1);have ak:=aj.trans E;clear E aa;go_wp2;go_ret;refine⟨?_,ak⟩;rw[<-ah.out];rfl
def Wk(k:Nat)(W:Aj)(u:k<=64):AC 287 #[k] W λe w'=>e=.returned (.int .i64 (Em k:Nat))/\Ae W w':=(Qx k W u).mono λ_ _ h=>⟨h.1,h.2▸Ae.refl W⟩
def AaI{k:Nat}(h:k<=32):Em k<=512:=by unfold Em;have:k*(k-1)<=32*32:=ym h Ad;omega
def XV(n S:Nat)(w:Aj)(H:n<=4)(U:1<=S/\S<=32):AC 204 #[.agg #[n,S]] w λe w'=>e=.returned (.int .i64 (n+2*n*Em n:Nat))/\Ae w w':=by
 have J:Ae w (w.alloc (.cells #[n,S] 67)):=(Ae.refl _).alloc _;have hb:=Aq.new w 67 #[n,S];generalize ag:w.alloc (.cells #[n,S] 67)=V at *;have Z:=hb.cell 0;have ah:=hb.cell 1;have aj:2*n*Em n<=8*6:=ym Ad (NT H);have aa:=λW=>Wk n W Ad;have O:2*(n:Int)*((Em n:Nat):Int)=((2*n*Em n:Nat):Int):=by rw[aam,aam];rfl
 generalize 2*n*Em n=q at *;generalize Em n=u at *;have ak:IntKind.i64.wrap (2*(n:Int))=2*(n:Int):=z5 _ Ad;have w2:IntKind.i64.wrap (2*(n:Int)*(u:Int))=(q:Int):=by rw[O];exact z5 _ Ad
 have al:IntKind.i64.wrap ((n:Int)+(q:Int))=(n:Int)+(q:Int):=z5 _ Ad;have ab:=J;have ac:=hb;clear J hb O;go_enter func204,ntmps204;go_wp2_with fail
 refine(LV n S V H U).mono ?_;rintro e ad⟨rfl,T⟩;have Z:=λW(E:Ae ad W)=>E.cell (T.cell (ac.cell 0));have ae:=ab.trans T;go_wp2;refine AL AJ ?_;(repeat first|apply Bg rfl (λW E=>Am) Am|apply AS rfl Am);apply Bu (λW E=>aa W) rfl (λW E=>by go_simp) Am;(repeat first|apply Bg rfl (λW E=>Am) Am|apply AS rfl Am);refine AN λW af=>?_;go_wp2;go_ret;exact⟨by rfl,ae.trans af⟩
def Xk(n S:Nat)(w:Aj)(ab:n<=4)(J:1<=S/\S<=32):AC 206 #[.agg #[n,S]] w λe w'=>e=.returned (.int .i64 (1+(n+1)*(1+Em S):Nat))/\Ae w w':=by
 have O:Ae w (w.alloc (.cells #[n,S] 67)):=(Ae.refl _).alloc _;have hb:=Aq.new w 67 #[n,S];generalize ac:w.alloc (.cells #[n,S] 67)=ad at *;have T:=hb.cell 0;have U:=hb.cell 1;have aj:=AaI J.2;have ak:(n+1)*(1+Em S)<=5*513:=ym Ad Ad;have ae:=λW=>Wk S W Ad;have V:((n:Int)+1)*(1+((Em S:Nat):Int))=(((n+1)*(1+Em S):Nat):Int):=by rw[aam];rfl
 generalize(n+1)*(1+Em S)=q at *;generalize Em S=u at *;have al:IntKind.i64.wrap ((n:Int)+1)=(n:Int)+1:=z5 _ Ad;have am:IntKind.i64.wrap (1+(u:Int))=1+(u:Int):=z5 _ Ad;have w2:IntKind.i64.wrap (((n:Int)+1)*(1+(u:Int)))=(q:Int):=by rw[V];exact z5 _ Ad
 have an:IntKind.i64.wrap (1+(q:Int))=1+(q:Int):=z5 _ Ad;have af:=O;have Z:=hb;clear O hb V;go_enter func206,ntmps206;go_wp2_with fail
 refine(LV n S ad ab J).mono ?_;rintro e aa⟨rfl,H⟩;have T:=λW(E:Ae aa W)=>E.cell (H.cell (Z.cell 0));have U:=λW(E:Ae aa W)=>E.cell (H.cell (Z.cell 1));have ag:=af.trans H;clear H ac;go_wp2;refine AL AJ ?_;(repeat first|apply Bg rfl (λW E=>Am) Am|apply AS rfl Am);apply Bu (λW E=>ae W) rfl (λW E=>by go_simp) Am;(repeat first|apply Bg rfl (λW E=>Am) Am|apply AS rfl Am);refine AN λW ah=>?_;clear T U;go_wp2;go_ret;exact⟨by rfl,ag.trans ah⟩
def Gi(m:List Bool)(x:Int):Bool:=m.getD (x-1).toNat false
def Sb{m x}(u:0<x):Ku m x=Gi m x:=by unfold Ku Gi;by_cases h:x<=(m.length:Int);rw[zt h];rfl;rw[zn h,yc,acm Ad];rfl
theorem Ahi{m x}(H:x≠0)(hb:-100000<=x/\x<=100000):Ch m x=true↔Tt (Gi m) x:=by
 unfold Ch;rcases Int.lt_or_gt_of_ne H with h|h;have u:Ak x=-x:=by unfold Ak;rw[zq h,zq hb.1]
 have E:FI x=false:=by grind[FI,decide_eq_false]
 rw[u,E,Sb Ad];constructor;intro g;exact .inr ⟨h,by simp_all⟩;rintro(⟨g,_⟩|⟨_,g⟩);omega;simp_all;have u:Ak x=x:=by unfold Ak;rw[zo Ad,zq hb.2]
 have E:FI x=true:=by grind[FI,decide_eq_true]
 rw[u,E,Sb Ad];constructor;intro g;exact .inl ⟨h,by simp_all⟩;rintro(⟨_,g⟩|⟨g,_⟩);rw[g,zt Ad];rfl;omega
def Vc{m c}{N:Nat}(u:N<=100000)(h:∀x∈c,x≠0/\-(N:Int)<=x/\x<=N):CF c m=true↔Gh (Gi m) c:=by grind[CF,Gh,List.any_eq_true,Ahi]
def FE{n S}(u:n<=4)(E:S<=32):BJ n S<=180:=by unfold BJ;have H:=ym u u;have J:(n+1)*S<=5*32:=ym Ad E;omega
def PZ{zc:List Ba}{l}{S zj:Nat}(J:l.length<=4)(O:S<=32)(hi:zj<S)(E:∀r∈zc,0<=r.ax/\r.ax<S)(m):Db (DM zc l S zj) m<0↔∃σ ze,Ie zc l S zj (Gi m) σ ze:=by rw[IX,<-Aba hi E];have T:=FE J O;constructor;intro h c u;have H:=Kv (S:=S) hi E c u;exact(Vc (N:=BJ l.length S) Ad H.1.aN).1 (h c u);intro h c u;have H:=Kv (S:=S) hi E c u;exact(Vc (N:=BJ l.length S) Ad H.1.aN).2 (h c u)
def Y8{zc l S zj t H σ ze}(h:Ie zc l S zj t σ ze)(e:∀x:Int,0<x->x<=BJ l.length S->t x=H x):Ie zc l S zj H σ ze where
 lt:=h.lt
 place a J k u:=by rw[<-e _ (Dv _ _ _) (Mh (S:=S) J u).2];exact h.place a J k u
 inj:=h.inj
 time:=h.time
 cF:=h.cF
 state k u b hb:=by rw[<-e _ (Eo _ _ _ _) (MM u hb).2];exact h.state k u b hb
 ds:=h.ds
 ended i hi O:=by rw[<-e _ (Ge _ _) (Oa (S:=S) hi).2.2];exact h.ended i hi O
 move i hi E:=h.move i hi (by rw[e _ (Ge _ _) (Oa (S:=S) hi).2.2];exact E)
 stay i hi E:=h.stay i hi (by rw[e _ (Ge _ _) (Oa (S:=S) hi).2.2];exact E)
def ZX{zc:List Ba}{l}{S zj:Nat}(E:l.length<=4)(H:S<=32)(hi:zj<S)(u:∀r∈zc,0<=r.ax/\r.ax<S){p}(J:p∈Ij zc l zj):∃m,m.length=BJ l.length S/\Db (DM zc l S zj) m<0:=by refine⟨(List.range (BJ l.length S)).map λk:Nat=>Vw zc l S zj p ((k:Int)+1),AG,(PZ E H hi u _).2 ⟨_,_,Y8 (AcR hi u J) λx T U=>?_⟩⟩;unfold Gi;obtain⟨k,O⟩:∃k:Nat,x=(k:Int)+1:=⟨(x-1).toNat,Ad⟩;subst O;grind
def ZA{N c}(h:Acd N c)(U:N<=100000)(T:c.length<=1000):M8 c N/\EG c=false/\(∀x∈c,AV x N=0)/\M8 c 100000:=by
 have H:∀v,(N:Int)<=v->v<=100000->∀x∈c,AV x v=0:=λv J u x E=>by have:=h.aN x E;unfold AV;rw[zo Ad,zq ⟨this.1,Ad,Ad⟩]
 have O:∀v,(N:Int)<=v->v<=100000->M8 c v:=λv J u=>⟨Ad,T,H v J u,h.aj⟩;refine⟨O N Ad Ad,?_,H N Ad Ad,O 100000 Ad Ad⟩;unfold EG;rw[xm];intro x E g;unfold Jj Fu at g;rw[z4,z4,z4]at g;have u:=Jc.1 g.2.2;have e:IJ x=-x:=by have:=h.aN x E;unfold IJ;rw[zq Ad]
 rw[e]at u;exact h.eZ x E u
def Sf{zc:List Ba}{l}{S zj:Nat}(J:l.length<=4)(O:S<=32)(hi:zj<S)(E:∀r∈zc,0<=r.ax/\r.ax<S)(T:(DM zc l S zj).length<=10000):Ov (BJ l.length S) (DM zc l S zj)/\∀c∈DM zc l S zj,c.Nodup/\(∀x∈c,AV x (BJ l.length S)=0)/\M8 c 100000/\c.length<=1000:=by have U:=FE J O;have H:∀c∈DM zc l S zj,_:=λc u=>ZA (Kv (S:=S) hi E c u).1 Ad (by have:=(Kv (S:=S) hi E c u).2;omega);refine⟨?_,λc u=>⟨(Kv (S:=S) hi E c u).1.aj,(H c u).2.2.1,(H c u).2.2.2,by have:=(Kv (S:=S) hi E c u).2;omega⟩⟩;exact⟨Ad,Ad,λc u=>⟨(H c u).1,(H c u).2.1⟩⟩
def Gt{u E:Type}{f:u->List E}{k}:∀{L:List u},(∀x∈L,(f x).length<=k)->(L.flatMap f).length<=L.length*k
 |[],_=>AG
 |x::L,h=>by rw[aa2,zu,List.length_cons,adw];have J:=h x (yx ..);have O:=Gt (L:=L) λy H=>h y (yj _ H);omega
def JW:∀vs,(BQ vs).length<=vs.length*vs.length
 |[]=>by simp[BQ]
 |v::t=>by rw[BQ,zu,z2,List.length_cons];have:=JW t;rw[adw,Nat.mul_add];omega
def KD{zc l S zj}(u:l.length<=4)(T:S<=32):(DM zc l S zj).length<=10000:=by
 have E:∀{k}{f:Nat->AT}{n},(∀x,x<n->(f x).length<=k)->((List.range n).flatMap f).length<=n*k:=λh=>by have:=Gt (L:=List.range _) λx U=>h x (zv.1 U);rwa[y9]at this
 generalize V:l.length=n at *;have Z:(Fj n).length<=200:=by
  unfold Fj;rw[zu];have J:=E (k:=17) (n:=n) (f:=λa=>EA n a::BQ (EA n a)) λx _=>by
   rw[List.length_cons];have:=JW (EA n x);have e:(EA n x).length=n:=by simp[EA]
   rw[e]at this;have H:=ym u u;omega
  have H:=E (k:=16) (n:=n) (f:=λk=>BQ (Gu n k)) λx _=>by
   have:=JW (Gu n x);have e:(Gu n x).length=n:=by simp[Gu]
   rw[e]at this;have H:=ym u u;omega
  have O:n*17<=4*17:=ym u (zs _);have aa:n*16<=4*16:=ym u (zs _);omega
 have ab:(Gk n (Cc l)).length<=300:=by
  have J:(Cc l).length<=16:=by
   unfold Cc;rw[V];have:=E (k:=4) (n:=n) (f:=λi=>[]) λ_ _=>AG;have H:((List.range n).flatMap λi=>((List.range n).filter λj=>Cw (opAt l i) (opAt l j)).map λj=>(i,j)).length<=(List.range n).length*4:=Gt λx _=>by rw[z2];have:=yl (λj=>Cw (opAt l x) (opAt l j)) (List.range n);rw[y9]at this;omega
   rw[y9]at H;omega
  have H:(Gk n (Cc l)).length<=(Cc l).length*16:=Gt λp _=>by
   unfold EN;split;simp;have:=E (k:=4) (n:=n) (f:=λa=>(List.range a).map λb=>[-Cx n p.1 a,-Cx n p.2 b]) λx U=>by grind
   have O:n*4<=4*4:=ym u (zs _);omega
  have O:(Cc l).length*16<=16*16:=ym J (zs _);omega
 have ac:(Fl n S zj).length<=5200:=by
  unfold Fl;rw[List.length_cons];have J:=E (k:=1025) (n:=n+1) (f:=λa=>ER n S a::BQ (ER n S a)) λx _=>by
   rw[List.length_cons];have:=JW (ER n S x);have e:(ER n S x).length=S:=by simp[ER]
   rw[e]at this;have H:=ym T T;omega
  have O:(n+1)*1025<=5*1025:=ym Ad (zs _);omega
 have ad:(FL zc l S).length<=1100:=by
  unfold FL;rw[V];have J:=E (k:=257) (n:=n) (f:=λi=>Od zc n S (opAt l i) i) λi _=>by
   unfold Od;rw[zu];have ae:(if(opAt l i).an=-1 then([]:AT)else[[Er n i]]).length<=1:=by split<;>simp
   have J:=E (k:=64) (n:=n) (f:=λk=>(List.range S).flatMap λb=>Ic zc n S (opAt l i) i k b) λk _=>by
    have H:=E (k:=2) (n:=S) (f:=λb=>Ic zc n S (opAt l i) i k b) λb _=>by grind[Ic,List.length_cons,opAt,Cx,Er,Dd]
    omega
   have H:n*64<=4*64:=ym u (zs _);omega
  have O:n*257<=4*257:=ym u (zs _);omega
 grind[DM,List.length_append]
