import Derived.Test.YtdmempceikifeaaGreatA10
import Derived.Deep.DeepCutAuto
set_option maxRecDepth 100000
set_option maxHeartbeats 16000000
set_option linter.all false
namespace Go.Proofs.YtdmempceikifeaaGreat
open Go.RowKit Tryz
section
open Go.Maps
def Ev(l:List AZ):An:=l.flatMap λx=>if 0<=x.an then[x.st,x.an]else[x.st]
def Jb(l:List AZ)(p:Int):Option AZ:=l.foldl (λa x=>if p=x.aD then some x else a) none
def Rb(l:List AZ)(j:Nat)(x:AZ):Bool:=(decide (0<j)&&decide (x.st<=(opAt l (j-1)).st))||decide (0<Cg (Ev (l.take j)) x.st)||(decide (0<=x.an)&&decide (0<Cg (Ev (l.take j)) x.an))
def J5(l:List AZ)(j:Nat)(x:AZ):Bool:=match Jb (l.take j) x.aD with|some p=>!Cw p x|none=>false
def EV(l:List AZ):Prop:=l.length<=5000/\∀j x,l[j]? =some x->Sr x/\Rb l j x=false/\J5 l j x=false
def X4(l:List AZ)(x:AZ):Ev (l++[x])=Ev l++[x.st]++if 0<=x.an then[x.an]else[]:=by unfold Ev;rw[y4];by_cases h:0<=x.an<;>simp[h]
def Aco(l:List AZ):(Ev l).length<=2*l.length:=by
 induction l with
 |nil=>simp[Ev]
 |cons x l u=>
  have e:Ev (x::l)=(if 0<=x.an then[x.st,x.an]else[x.st])++Ev l:=rfl;rw[e,zu,List.length_cons];have:(if 0<=x.an then[x.st,x.an]else[x.st]).length<=2:=by split<;>simp
  omega
def Z5(l:List AZ)(x:AZ)(p:Int):Jb (l++[x]) p=if p=x.aD then some x else Jb l p:=by unfold Jb;rw[xr];rfl
def Ql(x:AZ):Aw:=.agg #[x.aD,x.aq,x.st,x.an,x.aT]
def WE:NG 174 3 ():=⟨underlying174,LP⟩
def Ae1:NG 230 96 (Ql Afi):=⟨underlying230,λw=>AJ⟩
def FN(w:Aj)(b k:Nat)(U:An):Prop:=∃u f,BB w b u f/\u.length<=k/\∀z,(f z).getD ()=(Cg U z)
def Gd(w:Aj)(b k:Nat)(l:List AZ):Prop:=∃u f,BB w b u f/\u.length<=k/\∀z,f z=(Jb l z).map Ql
def FN.made(w:Aj):FN (w.alloc (.map #[] 0)) w 0 []:=⟨[],_,BB.made w,AG,λz=>by rw[OV];rfl⟩
def Gd.made(w:Aj):Gd (w.alloc (.map #[] 0)) w 0 []:=⟨[],_,BB.made w,AG,λz=>rfl⟩
section
variable{w w':World}{b k:Nat}{U:List Int}{l:List AZ}
theorem FN.ext(h:FN w b k U)(u:Ae w w'):FN w' b k U:=let⟨E,f,H,J⟩:=h;⟨E,f,H.ext u,J⟩
theorem Gd.ext(h:Gd w b k l)(u:Ae w w'):Gd w' b k l:=let⟨E,f,H,J⟩:=h;⟨E,f,H.ext u,J⟩
theorem FN.grown{g:Nat}(h:FN w b k U)(u:w.grownBy w' (some g))(E:b≠g):FN w' b k U:=let⟨H,f,J,O⟩:=h;⟨H,f,J.grown u (λe=>E (by injection e)),O⟩
theorem Gd.grown{g:Nat}(h:Gd w b k l)(u:w.grownBy w' (some g))(E:b≠g):Gd w' b k l:=let⟨H,f,J,O⟩:=h;⟨H,f,J.grown u (λe=>E (by injection e)),O⟩
theorem FN.mono{u:Nat}(h:FN w b k U)(E:k<=u):FN w b u U:=let⟨H,f,J,O,T⟩:=h;⟨H,f,J,z7 O E,T⟩
theorem FN.ai{g:Nat}{t:TypeId}{u:Ck}(h:FN w b k U)(E:Aq w g t u):b≠g:=let⟨_,_,H,_⟩:=h;H.ai E
theorem Gd.ai{g:Nat}{t:TypeId}{u:Ck}(h:Gd w b k l)(E:Aq w g t u):b≠g:=let⟨_,_,H,_⟩:=h;H.ai E
theorem FN.look(h:FN w b k U){x:Int}(u:Bj x):(Instr.lookup 174 (.map (some b)) x false).run prog w=.ok (Cg U x) w:=by obtain⟨J,f,E,_,H⟩:=h;rw[E.look WE u,H]
theorem Gd.look(h:Gd w b k l){x:Int}(u:Bj x):(Instr.lookup 230 (.map (some b)) x true).run prog w=.ok (.tuple #[Ql ((Jb l x).getD Afi),.bool (Jb l x).isSome]) w:=by obtain⟨J,f,E,_,H⟩:=h;rw[E.eW Ae1 u,H];cases Jb l x<;>rfl
end
def OH(w:Aj){zf:Array Oper}{rest:List Oper}{o:Oper}{a:Act}{Q:Exit->Act->Aj->Prop}(H:o.guard=none)(m x v:Operand)(J:o.op=Op.mapUpdate 174 m x v) (b k:Nat)(U:An)(O:a.eval m=.map (some b))(T:FN w b k U)(ah:k<=1000000000)(y:Int)(z:Int)(V:a.eval x=y)(Z:a.eval v=z)(aa:z=Cg U y+1)(ab:Bj y) (ac:∀w',FN w' b (k+1) (U++[y])->w.grownBy w' (some b)->wpList prog zf Q rest (a.put o.dst undef) w'):wpList prog zf Q (o::rest) a w:=by obtain⟨E,f,ad,aj,ae⟩:=T;refine Lt WE w H m x v J b E f O ad Ad y _ V Z ab λw' af ag=>ac w' ⟨_,_,af,by have:=KX E y;omega,λu=>?_⟩ ag;rw[<-KU];dsimp only;by_cases e:u=y;rw[zq e,zq e,aa];rfl;rw[zo e,zo e];exact ae u
def VA(w:Aj){zf:Array Oper}{rest:List Oper}{o:Oper}{a:Act}{Q:Exit->Act->Aj->Prop}(H:o.guard=none)(m x v:Operand)(J:o.op=Op.mapUpdate 230 m x v) (b k:Nat)(l:List AZ)(q:AZ)(O:a.eval m=.map (some b))(T:Gd w b k l)(ag:k<=1000000000)(V:a.eval x=q.aD)(Z:a.eval v=Ql q)(aa:Bj q.aD) (ab:∀w',Gd w' b (k+1) (l++[q])->w.grownBy w' (some b)->wpList prog zf Q rest (a.put o.dst undef) w'):wpList prog zf Q (o::rest) a w:=by obtain⟨E,f,ac,ah,ad⟩:=T;refine Lt Ae1 w H m x v J b E f O ac Ad q.aD _ V Z aa λw' ae af=>ab w' ⟨_,_,ae,by have:=KX E q.aD;omega,λu=>?_⟩ af;rw[Z5];by_cases e:u=q.aD;rw[zq e,zq e];rfl;rw[zo e,zo e];exact ad u
def LW(w:Aj){zf:Array Oper}{rest:List Oper}{o:Oper}{a:Act}{Q:Exit->Act->Aj->Prop}(u:o.guard=none)(m x:Operand)(E:o.op=Op.lookup 230 m x true) (b k:Nat)(l:List AZ)(H:a.eval m=.map (some b))(J:Gd w b k l)(y:Int)(O:a.eval x=y)(T:Bj y) (V:wpList prog zf Q rest (a.put o.dst (.tuple #[Ql ((Jb l y).getD Afi),.bool (Jb l y).isSome])) w):wpList prog zf Q (o::rest) a w:=by refine x5 u λaa Z=>?_;unfold Oper.wp;simp[execOp,E,H,O,J.look T,Result.andThen];exact Z _ _ V
def PA(w:Aj){zf:Array Oper}{rest:List Oper}{o:Oper}{a:Act}{Q:Exit->Act->Aj->Prop}(u:o.guard=none)(m x:Operand)(E:o.op=Op.lookup 230 m x true) (b k:Nat)(l:List AZ)(H:a.eval m=.map (some b))(J:Gd w b k l)(y:Int)(O:a.eval x=y)(T:Bj y)(V:Jb l y=none) (Z:wpList prog zf Q rest (a.put o.dst (.tuple #[.agg #[(),(),(),(),()],false])) w):wpList prog zf Q (o::rest) a w:=LW w u m x E b k l H J y O T (by rw[V];exact Z)
def QE(w:Aj){zf:Array Oper}{rest:List Oper}{o:Oper}{a:Act}{Q:Exit->Act->Aj->Prop}(T:o.guard=none)(m x:Operand)(V:o.op=Op.lookup 230 m x true) (b k:Nat)(l:List AZ)(Z:a.eval m=.map (some b))(aa:Gd w b k l)(y:Int)(ab:a.eval x=y)(ac:Bj y)(u E H J O:Int)(ad:Jb l y=some ⟨u,E,H,J,O⟩) (ae:wpList prog zf Q rest (a.put o.dst (.tuple #[.agg #[u,E,H,J,O],true])) w):wpList prog zf Q (o::rest) a w:=LW w T m x V b k l Z aa y ab ac (by rw[ad];exact ae)
def LD(w:Aj){zf:Array Oper}{rest:List Oper}{o:Oper}{a:Act}{Q:Exit->Act->Aj->Prop}(u:o.guard=none)(m x:Operand)(E:o.op=Op.lookup 174 m x false) (b k:Nat)(U:An)(H:a.eval m=.map (some b))(J:FN w b k U)(y:Int)(O:a.eval x=y)(T:Bj y) (V:wpList prog zf Q rest (a.put o.dst (Cg U y)) w):wpList prog zf Q (o::rest) a w:=by refine x5 u λaa Z=>?_;unfold Oper.wp;simp[execOp,E,H,O,J.look T,Result.andThen];exact Z _ _ V
def Iz(A:AD)(n c:Nat)(l:List AZ)(w:Aj)(h:Bx w A n l)(cH:n<=1000000000)(bj:∀x∈l,Bj x.st/\Bj x.an/\Bj x.aD):AC 58 #[.slice A n c] w (Wv (EV l) w):=by
 have bk:=zk h;have aR:=zk h.len;have bR:=zk bj;clear h bj;by_cases az:5000<n
 . have aS:decide ((5000:Int)<(n:Int))=true:=zt Ad;have bS:=zk az;clear az;go_enter func58,ntmps58;go_wp2;go_ret2;exact⟨0,3,rfl,⟨λh=>(by cases h),λh=>by have:=h.1;have:=bS.out;have:=aR.out;omega⟩,Ae.refl _⟩
 have aS:decide ((5000:Int)<(n:Int))=false:=zn Ad;have bn:=zk az;have aa:=FN.made w;have ae:=Gd.made (w.alloc (.map #[] 0));have aa:=aa.ext ((Ae.refl _).alloc (.map #[] 0));have br:Ae w ((w.alloc (.map #[] 0)).alloc (.map #[] 0)):=((Ae.refl _).alloc _).alloc _;generalize bT:(w.alloc (.map #[] 0)).alloc (.map #[] 0)=cI at *;rw[z3]at ae;have bt:=zk aa;have bu:=zk ae;have bU:=zk br;have aT:Hid (w≠w.heap.size+1):=zk (by omega);have bV:Hid (w.heap.size<=w.heap.size+1):=zk (by omega);clear aa ae br az;have bW:=@run_makeMap prog;go_enter func58,ntmps58;go_wp2;clear bT aS bW;generalize bX:w.heap.size+1=aA at *;clear bX;go_loopw[18](λi wr=>∃j:Nat,i=j/\j<=n/\Ae w wr/\FN wr w (2*j) (Ev (l.take j))/\Gd wr aA j (l.take j)/\∀k x,k<j->l[k]? =some x->Sr x/\Rb l k x=false/\J5 l k x=false)(λi _=>n-(intOf i).toNat);case atStart=>exact⟨0,rfl,zx _,bU.out,bt.out,bu.out,λk x aB=>by omega⟩
 case round=>
  obtain⟨j,rfl,cJ,aw,aa,ae,aU⟩:=hrel;have bY:=zk aw;have bt:=zk aa;have bu:=zk ae;have bw:=zk aU;by_cases bZ:j<n
  . obtain⟨cK,H,O,u,E,rs,rfl,aC,b0,b1,aD,aE,b2⟩:=(bk.out.ext aw).at_ bZ;have aF:=zk aC;have aG:=zk (AM aC);obtain⟨aV,aW,aX⟩:=bR.out _ (zm aC);dsimp only at aV aW aX;have aY:=zk aV;have aZ:=zk aW;have a1:=zk aX;have cL:(j:Int)<(n:Int):=Ad;have cM:(0:Int)<=(j:Int):=Ad;have aH:Ae wr (wr.alloc (.cells #[H,O,u,E,rs] 96)):=(Ae.refl wr).alloc _;have ag:=Aq.new wr 96 #[H,O,u,E,rs];generalize b3:wr.alloc (.cells #[H,O,u,E,rs] 96)=b4 at *;have d0:=ag.cell 0;have d1:=ag.cell 1;have d2:=ag.cell 2;have d3:=ag.cell 3;have d4:=ag.cell 4;have b5:=zk (aw.trans aH);have b6:=zk ag;have b7:=zk (aa.ext aH);have b8:=zk (ae.ext aH);clear aw aa ae aU aC aH ag aV aW aX;go_wp2_with fail
    refine(Acu H O u E rs b4).mono ?_;rintro e ao⟨aI,rfl,bx,ax⟩;have bz:=zk bx;have a5:=zk (b5.out.trans ax);have a6:=zk (b6.out.ext ax);have a7:=zk (b7.out.ext ax);have b9:=zk (b8.out.ext ax);clear bx ax b3 b0 b1 aD aE b2 d0 d1 d2 d3 d4;generalize wr=cN at *;by_cases ay:aI=0
    . subst ay;have cc:=zk (bz.out.1 rfl);go_wp2;go_cut[60](λs ce=>s=.bool (Rb l j ⟨H,O,u,E,rs⟩)/\Ae ao ce)
      case first=>
       have aD:=λW(J:Ae ao W)=>J.cell (a6.out.cell 2);have aE:=λW(J:Ae ao W)=>J.cell (a6.out.cell 3);have bA:=λW(J:Ae ao W)=>(a7.out.ext J).look aY.out;have bB:=λW(J:Ae ao W)=>(a7.out.ext J).look aZ.out;have af:Hid (Rb l j ⟨H,O,u,E,rs⟩=((decide (0<j)&&decide (u<=(opAt l (j-1)).st))||decide (0<Cg (Ev (l.take j)) u)||(decide (0<=E)&&decide (0<Cg (Ev (l.take j)) E)))):=zk rfl;generalize Cg (Ev (l.take j)) u=bC at *;generalize Cg (Ev (l.take j)) E=a2 at *;rcases xe j with rfl|t0;have d0:decide (0<0)=false:=rfl;obtain d2|d2:=R9 (0<bC)<;>obtain d3|d3:=R9 (0<=E)<;>obtain d4|d4:=R9 (0<a2)<;>(
        refine AL AJ ?_;(repeat first|apply Bg rfl (λW J=>Am) Am|apply AS rfl Am);refine AN λW J=>?_;have a8:=zk J;clear J aD aE bA bB;go_wp2_with fail
        go_meet;exact⟨by rw[af.out];simp[*],a8.out⟩)
       obtain⟨cO,cP,cQ,cf,cR,cS,a9,bD,cg,ab,Z,ac,ad⟩:=(bk.out.ext a5.out).at_ (k:=j-1) Ad;cases a9;have cT:IntKind.i64.wrap ((j:Int)-1)=((j-1:Nat):Int):=by rw[z5 _ Ad];omega
       have d0:decide (0<j)=true:=zt Ad;have cU:((j-1:Nat):Int)<(n:Int):=Ad;have cV:(0:Int)<=((j-1:Nat):Int):=Ad;have ba:=λW(J:Ae ao W)=>J.cell Z;rw[EO bD]at af;dsimp only at af;clear bD cg ab Z ac ad t0;obtain d1|d1:=R9 (u<=cf)<;>obtain d2|d2:=R9 (0<bC)<;>obtain d3|d3:=R9 (0<=E)<;>obtain d4|d4:=R9 (0<a2)<;>(
        refine AL AJ ?_;(repeat first|apply Bg rfl (λW J=>Am) Am|apply AS rfl Am);refine AN λW J=>?_;have a8:=zk J;clear J ba aD aE bA bB;go_wp2_with fail
        go_meet;exact⟨by rw[af.out];simp[*],a8.out⟩)
      case rest=>
       obtain⟨rfl,aq⟩:=hcut;generalize wc=w2 at aq⊢;have aJ:=zk (a5.out.trans aq);have ah:=zk (a6.out.ext aq);have bE:=zk (a7.out.ext aq);have aK:=zk (b9.out.ext aq);clear aq;cases aL:Rb l j ⟨H,O,u,E,rs⟩with
       |true=> have af:=zk aL;clear aL;go_wp2;go_ret2;exact⟨_,32,rfl,⟨λh=>(by cases h),λh=>by have:=(h.2 j _ aF.out).2.1;rw[af.out]at this;cases this⟩,aJ.out⟩
       |false=>
        have af:=zk aL;clear aL;have d0:=ah.out.cell 0;have d1:=ah.out.cell 1;have d2:=ah.out.cell 2;have d3:=ah.out.cell 3;have d4:=ah.out.cell 4;rcases au:Jb (l.take j) H with _|⟨ab,Z,ac,ad,aj⟩;focus have ak:Hid (J5 l j ⟨H,O,u,E,rs⟩=false):=zk (by unfold J5;simp only[au]);have bc:=zk au;have T:Ae w2 (w2.alloc (.cells #[(),(),(),(),()] 96)):=(Ae.refl _).alloc _;clear au;have cW:=d0;have cX:=d1;have cY:=d2;have cZ:=d3;have c0:=d4;have aM:=zk (aJ.out.trans T);have V:=ah.out.ext T;have bd:=zk V;have aN:=zk (bE.out.ext T);have bF:=zk (aK.out.ext T);have d0:=V.cell 0;have d1:=V.cell 1;have d2:=V.cell 2;have d3:=V.cell 3;have d4:=V.cell 4;clear T V
        rotate_left;focus
         have ak:Hid (J5 l j ⟨H,O,u,E,rs⟩=!Cw ⟨ab,Z,ac,ad,aj⟩ ⟨H,O,u,E,rs⟩):=zk (by unfold J5;simp only[au]);have bc:=zk au;have al:Ae w2 (w2.alloc (.cells #[ab,Z,ac,ad,aj] 96)):=(Ae.refl _).alloc _;have av:=Aq.new w2 96 #[ab,Z,ac,ad,aj];generalize ch:w2.alloc (.cells #[ab,Z,ac,ad,.int .i64 aj] 96)=ci at *;have cj:=av.cell 0;have cm:=al.cell d0;have cn:=av.cell 1;have co:=al.cell d1;have a9:=av.cell 2;have ba:=al.cell d2;have cp:=av.cell 3;have cq:=al.cell d3;have cr:=av.cell 4;have cs:=al.cell d4;have ct:=zk al;clear au al av;go_wp2_with(at_lookup;refine QE _ rfl (.tmp 63) (.tmp 65) rfl aA j (l.take j) rfl aK.out H rfl a1.out ab Z ac ad aj bc.out ?_)
         refine(Nc ab Z ac ad aj H O u E rs ci).mono ?_;rintro e c9⟨rfl,T⟩;have T:=ct.out.trans T;clear ch cj cn a9 cp cr cm co ba cq cs d0 d1 d2 d3 d4;rcases aO:Cw ⟨ab,Z,ac,ad,aj⟩ ⟨H,O,u,E,rs⟩with _|_
         . have ak:Hid (J5 l j ⟨H,O,u,E,rs⟩=true):=zk (by rw[ak.out,aO];rfl);have aM:=zk (aJ.out.trans T);clear aO T;go_wp2;go_ret2;exact⟨_,33,rfl,⟨λh=>(by cases h),λh=>by have:=(h.2 j _ aF.out).2.2;rw[ak.out]at this;cases this⟩,aM.out⟩
         have ak:Hid (J5 l j ⟨H,O,u,E,rs⟩=false):=zk (by rw[ak.out,aO];rfl);clear aO;have aM:=zk (aJ.out.trans T);have V:=ah.out.ext T;have bd:=zk V;have aN:=zk (bE.out.ext T);have bF:=zk (aK.out.ext T);have d0:=V.cell 0;have d1:=V.cell 1;have d2:=V.cell 2;have d3:=V.cell 3;have d4:=V.cell 4;clear T V
        all_goals
         have cu:=Aco (l.take j);have cv:(l.take j).length<=j:=by rw[ya];omega
         have cx:=LR (Ev (l.take j)) u;have bG:=LR (Ev (l.take j)++[u]) E;rw[zu,List.length_singleton]at bG;have cy:n<=5000:=by have:=bn.out;omega
         have bH:Hid (∀k x,k<j+1->l[k]? =some x->Sr x/\Rb l k x=false/\J5 l k x=false):=zk λk x aB be=>by
          by_cases e:k=j
          . subst e;rw[aF.out]at be;cases be;exact⟨cc.out,af.out,ak.out⟩
          . exact bw.out k x Ad be
         have v1:IntKind.i64.wrap (Cg (Ev (l.take j)) u+1)=Cg (Ev (l.take j)) u+1:=z5 _ Ad;have da:IntKind.i64.wrap (Cg (Ev (l.take j)++[u]) E+1)=Cg (Ev (l.take j)++[u]) E+1:=z5 _ Ad;have bI:=zk (X4 (l.take j) ⟨H,O,u,E,rs⟩);have bf:Hid (2*j<=1000000000/\2*j+1<=1000000000/\j<=1000000000):=zk Ad;clear cu cv cx bG cy;obtain t3|t3:=R9 (0<=E)<;>(
          go_wp2_with(first
           |(at_lookup;refine PA _ rfl (.tmp 63) (.tmp 65) rfl aA j (l.take j) rfl aK.out H rfl a1.out bc.out ?_)
           |(at_lookup;refine LD _ rfl (.tmp 77) (.tmp 79) rfl w _ _ rfl aN.out u rfl aY.out ?_)
           |(at_mapUpdate;refine OH _ rfl (.tmp 77) (.tmp 79) (.tmp 81) rfl w _ _ rfl aN.out bf.out.1 u _ rfl rfl rfl aY.out ?_;intro cz bJ aP;have cA:=zk bJ;have bK:=zk (bF.out.grown aP (yb aT.out));have cB:Hid (Ae w cz):=Ae.grown aM.out aP (λk e=>by cases e;exact zs _);have am:=bd.out.grown aP (λe=>aN.out.ai bd.out (by injection e with e;exact e.symm));have bL:=zk am;have d0:=am.cell 0;have d1:=am.cell 1;have d2:=am.cell 2;have d3:=am.cell 3;have d4:=am.cell 4;clear bJ aP am)
           |(at_mapUpdate;refine VA _ rfl (.tmp 82) (.tmp 84) (.tmp 85) rfl aA _ _ ⟨H,O,u,E,rs⟩ rfl bK.out bf.out.2.2 rfl rfl a1.out ?_;intro cC bM aQ;have bN:=zk bM;have bh:=zk (cA.out.grown aQ aT.out);have bO:Hid (Ae w cC):=Ae.grown cB.out aQ (λk e=>by cases e;exact bV.out);have an:=bL.out.grown aQ (λe=>bK.out.ai bL.out (by injection e with e;exact e.symm));have dc:=zk an;have d0:=an.cell 0;have d1:=an.cell 1;have d2:=an.cell 2;have d3:=an.cell 3;have d4:=an.cell 4;clear bM aQ an)
           |(at_lookup;refine LD _ rfl (.tmp 89) (.tmp 91) rfl w _ _ rfl bh.out E rfl aZ.out ?_)
           |(at_mapUpdate;refine OH _ rfl (.tmp 89) (.tmp 91) (.tmp 93) rfl w _ _ rfl bh.out bf.out.2.1 E _ rfl rfl rfl aZ.out ?_;intro cD bP bi;have cE:=zk bP;have cF:=zk (bN.out.grown bi (yb aT.out));have cG:Hid (Ae w cD):=Ae.grown bO.out bi (λk e=>by cases e;exact zs _);clear bP bi))
          go_roundw)
         case rel=>exact⟨j+1,by go_num,Ad,cG.out,(by rw[aG.out,bI.out,zq (of_decide_eq_true t3)];exact cE.out.mono Ad),(by rw[aG.out];exact cF.out),bH.out⟩
         case measure=>simp[intOf];omega
         case rel=>exact⟨j+1,by go_num,Ad,bO.out,(by rw[aG.out,bI.out,zo (of_decide_eq_false t3),yg];exact bh.out.mono Ad),(by rw[aG.out];exact bN.out),bH.out⟩
         case measure=>simp[intOf];omega
    have aS:decide (aI=0)=false:=zn ay;have dd:(aI==0)=false:=by simpa using ay
    have bQ:=zk ay;clear ay;go_wp2;go_ret2;exact⟨_,aI,rfl,⟨λh=>absurd h bQ.out,λh=>absurd (bz.out.2 (h.2 j _ aF.out).1) bQ.out⟩,a5.out⟩
  obtain rfl:n=j:=Ad;clear aw aa ae aU;go_wp2;go_ret2;exact⟨_,0,rfl,⟨λ_=>⟨by have:=aR.out;have:=bn.out;omega,λk x aB=>bw.out k x (by have:=(zl.1 aB).1;have:=aR.out;omega) aB⟩,λ_=>rfl⟩,bY.out⟩
end
structure Dt(w:Aj)(S:Nat)(K zj:Int)(A:AD)(n:Nat)(zc:List Ba)(B:AD)(m:Nat)(l:List AZ):Prop where
 cb:Bi w A n zc
 bG:Bx w B m l
 ca:n<=1000000000
 hm:m<=4
 b6:H7 S K zj zc
 b9:EV l
section
variable{w w':World}{S n m:Nat}{K zj:Int}{A B:Option Addr}{zc:List Ba}{l:List AZ}
theorem Dt.ext(h:Dt w S K zj A n zc B m l)(u:Ae w w'):Dt w' S K zj A n zc B m l:=⟨h.cb.ext u,h.bG.ext u,h.ca,h.hm,h.b6,h.b9⟩
theorem Dt.bc(h:Dt w S K zj A n zc B m l):1<=S/\S<=32:=by have:=h.b6.1;omega
theorem Dt.dn(h:Dt w S K zj A n zc B m l):1<=K/\K<=64:=h.b6.2.1
theorem Dt.len(h:Dt w S K zj A n zc B m l):l.length=m:=h.bG.len
theorem ZK{S K zj:Int}{zc:List Ba}(h:H7 S K zj zc):∀r∈zc,0<=r.ax/\r.ax<S:=λr u=>by obtain⟨i,hi⟩:=z0 u;have:=(h.2.2.2 i (zl.1 hi).1 r hi).1.2;unfold CX at this;simpa using this
theorem Dt.ax(h:Dt w S K zj A n zc B m l):∀r∈zc,0<=r.ax/\r.ax<S:=ZK h.b6
theorem EV.ok(h:EV l){j:Nat}{x:AZ}(u:l[j]? =some x):Sr x:=(h.2 j x u).1
theorem Sr.aN{x:AZ}(h:Sr x):Bj x.st/\Bj x.an/\Bj x.aD:=by obtain⟨E,H,J,u⟩:=h;unfold Bj;rcases u with u|u<;>omega
theorem EV.aN(h:EV l):∀x∈l,Bj x.st/\Bj x.an/\Bj x.aD:=λ_ u=>let⟨_,E⟩:=z0 u;(h.ok E).aN
end
def AdF(w:Aj)(g:Nat)(a b:Aw):Aj:=(w.setCell g a).setCell ⟨g,1,none⟩ b
def Jh{w:Aj}{g:Nat}{t:TypeId}{a b a' b':Aw}(h:Aq w g t #[a',b']):Aq (AdF w g a b) g t #[a,b]:=(h.ad 0 a).ad 1 b
def I8{w W:Aj}{g:Nat}(h:Ae w W)(u:w<=g)(a b:Aw):Ae w (AdF W g a b):=(h.setCell (p:=g) u a).setCell (p:=⟨g,1,none⟩) u b
def KF(S:Nat)(K zj:Int)(A:AD)(n c:Nat)(zc:List Ba)(B:AD)(m d:Nat)(l:List AZ)(w:Aj)(h:Dt w S K zj A n zc B m l):AC 34 #[.agg #[S,K,zj,.slice A n c],.slice B m d] w λe w'=>e=.returned (.agg #[m,S])/\Ae w w':=by
 have an:=h.bc;have ao:=h.dn;have U:Ae w ((w.alloc (.cells #[S,K,zj,.slice A n c] 24)).alloc (.cells #[(),()] 67)):=((Ae.refl _).alloc _).alloc _;have u:=(Aq.new w 24 #[S,K,zj,.slice A n c]).alloc (.cells #[(),()] 67);have V:=Aq.new (w.alloc (.cells #[S,K,zj,.slice A n c] 24)) 67 #[(),()];rw[z3]at V;generalize ab:(w.alloc (.cells #[S,K,zj,.slice A n c] 24)).alloc (.cells #[(),()] 67)=ac at *;have ad:=u.cell 0;have ae:=u.cell 1;have af:=u.cell 2;have ag:=u.cell 3;have H:=h.ext U;have ah:=U;have T:=u;have aj:=V;clear h U u V;go_enter func34,ntmps34;go_wp2_with fail
 refine(Fq S K zj A n c zc ac H.cb H.ca Ad Ad).mono ?_;rintro e ak⟨aq,al,rfl,J,Z⟩;obtain rfl:al=0:=J.2 H.b6;clear J ab;go_wp2_with fail
 refine(Iz B m d l ak (H.bG.ext Z) (by have:=H.hm;omega) H.b9.aN).mono ?_;rintro e w2⟨au,am,rfl,J,aa⟩;obtain rfl:am=0:=J.2 H.b9;have E:=Z.trans aa;have ad:=E.cell (T.cell 0);have ae:=E.cell (T.cell 1);have af:=E.cell (T.cell 2);have ag:=E.cell (T.cell 3);have O:=aj.ext E;have d0:=O.cell 0;have d1:=O.cell 1;have f0:=O.frozen 0;have f1:=O.frozen 1;clear aa J;go_wp2;try rw[x8]
 refine yw (xq rfl _ _ (w+1) 67 #[m,S] (0,0) _ rfl (Jh O) underlying67 rfl AJ) rfl ?_;exact⟨rfl,I8 (ah.trans E) Ad _ _⟩
def Ob(x s:Int)(g:Nat)(w:Aj)(hb:Aq w g 3 #[s])(u:0<=s/\s<=1000000/\0<=x/\x<=1000000):AC 209 #[x,.pointer g] w λe w'=>e=.returned (.tuple #[])/\w'=w.setCell g (.int .i64 (s+x)):=by have E:=hb.cell 0;have f0:=hb.frozen 0;have v0:IntKind.i64.wrap (s+x)=s+x:=z5 _ Ad;clear hb;go_enter func209,ntmps209;go_wp2;go_end0;exact⟨rfl,rfl⟩
def Aa1(x:Int)(v:Aw)(_:Aj):Prop:=v=x
def Ahw(k:Nat)(v:Aw)(_:Aj):Prop:=∃A c,v=.slice A k c
def Ajf(u v:Aw)(_:Aj):Prop:=v=u
def Ai4(lo:Nat)(v:Aw)(W:Aj):Prop:=∃g:Nat,v=.pointer g/\lo<=g/\Aq W g 302 #[(),(),(),()]
def Ai7(a0 u a2 a3:Int)(j:Nat)(s:Int):Prop:=(j=0/\s=0)\/(j=1/\s=a0)\/(j=2/\s=a0+u)\/(j=3/\s=a0+u+a2)\/(j=4/\s=a0+u+a2+a3)
def S6(w:Aj)(g:Nat)(a b c d:Aw):Aj:=(((w.setCell g a).setCell ⟨g,1,none⟩ b).setCell ⟨g,2,none⟩ c).setCell ⟨g,3,none⟩ d
def Acv{w:Aj}{g:Nat}{t:TypeId}{a b c d a' b' c' d':Aw}(h:Aq w g t #[a',b',c',d']):Aq (S6 w g a b c d) g t #[a,b,c,d]:=(((h.ad 0 a).ad 1 b).ad 2 c).ad 3 d
def Abh{w W:Aj}{g:Nat}(h:Ae w W)(u:w<=g)(a b c d:Aw):Ae w (S6 W g a b c d):=(((h.setCell (p:=g) u a).setCell (p:=⟨g,1,none⟩) u b).setCell (p:=⟨g,2,none⟩) u c).setCell (p:=⟨g,3,none⟩) u d
def IQ(w:Aj)(g i:Nat)(v:Aw):w.grownBy (w.setCell ⟨g,i,none⟩ v) (some g):=⟨rfl,rfl,rfl,by rw[xf];exact zs _,λk _ u=>yt w _ v k (λe=>u (by rw[e]))⟩
def Nt{l:List AZ}(E:l.length<=4):(Cc l).length<=16:=by
 unfold Cc;have u:((List.range l.length).flatMap λi=>((List.range l.length).filter λj=>Cw (opAt l i) (opAt l j)).map λj=>(i,j)).length<=(List.range l.length).length*4:=Gt λx _=>by rw[z2];have:=yl (λj=>Cw (opAt l x) (opAt l j)) (List.range l.length);rw[y9]at this;omega
 rw[y9]at u;omega
def AdX(l:List AZ)(m:Nat):(DX l m).length<=m:=by unfold DX;rw[z2];have:=yl (λi=>(opAt l i).an==-1) (List.range m);rw[y9]at this;exact this
def AgF(S:Nat)(B:AD)(m d:Nat)(l:List AZ)(w:Aj)(h:Bx w B m l)(ab:m<=4)(ac:1<=S/\S<=32)(aE:EV l):AC 133 #[.agg #[m,S],.slice B m d] w λe w'=>∃v:Int,e=.returned v/\(1<=v/\v<=500000)/\Ae w w':=by
 have aQ:=h.len;have aR:=Nt (l:=l) Ad;have bA:=AdX l m;have ae:Ae w (w.alloc (.cells #[m,S] 67)):=(Ae.refl _).alloc _;have hb:=Aq.new w 67 #[m,S];generalize aS:w.alloc (.cells #[m,S] 67)=aT at *;have ax:=h.ext ae;have aU:=ae;have ay:=hb;have aV:=λW=>XV m S W ab ac;have aW:=λW=>Xk m S W ab ac;have aX:=λW=>AaZ m S (Cc l).length W ab ac Ad;have aY:=λW=>Abz m S (m-(DX l m).length) W ab ac Ad;have az:=NT ab;have aZ:=AaI ac.2;have aF:m+2*m*Em m<=60:=by have:2*m*Em m<=8*6:=ym Ad az;omega
 have a1:(Cc l).length*Em m<=16*6:=ym aR az;have a5:(m+1)*(1+Em S)<=5*513:=ym Ad Ad;have a6:(m-(DX l m).length)*(1+m*S)+(m-(m-(DX l m).length))*2*(m*S)<=4*129+8*128:=by have E:m*S<=4*32:=ym ab ac.2;have V:(m-(DX l m).length)*(1+m*S)<=4*129:=ym Ad Ad;have T:(m-(m-(DX l m).length))*2*(m*S)<=8*128:=ym Ad E;omega
 have a7:(m+2*m*Em m<=60/\(Cc l).length*Em m<=96/\1+(m+1)*(1+Em S)<=2600/\(m-(DX l m).length)*(1+m*S)+(m-(m-(DX l m).length))*2*(m*S)<=2000):=⟨aF,Ad,Ad,Ad⟩;have a8:(1<=1+(m+1)*(1+Em S)):=Ad;clear aF a1 a5 a6 az aZ;generalize hA0:m+2*m*Em m=a0 at *;generalize hA1:(Cc l).length*Em m=J at *;generalize hA2:1+(m+1)*(1+Em S)=a2 at *;generalize hA3:(m-(DX l m).length)*(1+m*S)+(m-(m-(DX l m).length))*2*(m*S)=a3 at *;generalize aG:(DX l m).length=af at *;generalize aH:(Cc l).length=aA at *;have a9:=zk aG;have ba:=zk aQ;have bc:=zk aH;have bB:IntKind.i64.wrap ((m:Int)-(af:Int))=((m-af:Nat):Int):=by rw[z5 _ Ad];omega
 have ak:=hb.cell 0;have al:=hb.cell 1;clear h ae hb hA0 hA1 hA2 hA3 aG aH;go_enter func133,ntmps133;go_wp2_with fail
 refine(Iz B m d l aT ax Ad aE.aN).mono ?_;rintro e bd⟨bC,be,rfl,aI,aB⟩;obtain rfl:be=0:=aI.2 aE;have ak:=aB.cell (ay.cell 0);have al:=aB.cell (ay.cell 1);clear aI aS;go_wp2_with fail
 refine(LV m S bd ab ac).mono ?_;rintro e w2⟨rfl,aJ⟩;have am:=aB.trans aJ;have an:=ay.ext am;have ak:=an.cell 0;have al:=an.cell 1;clear aJ;go_wp2;have ak:=λW(u:Ae w2 W)=>u.cell (an.cell 0);have al:=λW(u:Ae w2 W)=>u.cell (an.cell 1);refine Ct [(35,Ahw aA),(36,Aa1 (aA:Int)),(37,Aa1 (J:Int)),(44,Ahw af),(45,Aa1 (af:Int)),(46,Aa1 ((m-af:Nat):Int)),(47,Aa1 (a3:Int)),(48,Ajf (.agg #[a0,J,a2,a3])),(7,Ai4 w2)] (n:=19) AJ rfl rfl (.cons (λ_ _ _ h _=>h) (.cons (λ_ _ _ h _=>h) (.cons (λ_ _ _ h _=>h) (.cons (λ_ _ _ h _=>h) (.cons (λ_ _ _ h _=>h) (.cons (λ_ _ _ h _=>h) (.cons (λ_ _ _ h _=>h) (.cons (λ_ _ _ h _=>h) (.cons (λ_ _ _⟨g,E,V,T⟩ae=>⟨g,E,V,T.ext ae⟩) .nil))))))))) ?_;simp only[List.take_succ_cons,List.take_zero];(repeat apply Ep rfl rfl (λW u=>Am) Am);apply KT rfl (λW u=>aV W) rfl (λW u=>by go_simp) Am;(repeat apply Ep rfl rfl (λW u=>Am) Am);refine Di 35 _ (by rfl) rfl rfl (by rfl) (λW σ u H=>?_) Am ?_;simp only[AQ];exact .inr ⟨_,_,by go_simp,(Nd B m d l W (ax.ext (am.trans u)) Ad).mono λe w'⟨A,k,c,E,V,T⟩=>⟨_,E,T,A,c,by have:=V.1;rw[BZ Ig,bc.out]at this;rw[show k=aA by omega]⟩⟩;refine Di 36 _ (by rfl) rfl rfl (by rfl) (λW σ u H=>?_) Am ?_;obtain⟨A',c',E⟩:=H 35 _ rfl AJ;simp only[AQ,E];exact .inl ⟨_,_,by go_simp,Ae.refl _,rfl⟩;refine Di 37 _ (by rfl) rfl rfl (by rfl) (λW σ u H=>?_) Am ?_;have E:σ 36=_:=H 36 _ rfl AJ;simp only[AQ,E];exact .inr ⟨_,_,by go_simp,(aX W).mono λe w'⟨T,ad⟩=>⟨_,T,ad,rfl⟩⟩;(repeat apply Ep rfl rfl (λW u=>Am) Am);apply KT rfl (λW u=>aW W) rfl (λW u=>by go_simp) Am;(repeat apply Ep rfl rfl (λW u=>Am) Am);refine Di 44 _ (by rfl) rfl rfl (by rfl) (λW σ u H=>?_) Am ?_;simp only[AQ];exact .inr ⟨_,_,by go_simp,(V4 B m d l W (ax.ext (am.trans u)) Ad).mono λe w'⟨v,E,V,T⟩=>(by obtain⟨A',bf,c',rfl⟩:=V.form;have ad:bf=_:=V.aL;rw[ba.out,a9.out]at ad;exact⟨_,E,T,A',c',by rw[ad]⟩)⟩;refine Di 45 _ (by rfl) rfl rfl (by rfl) (λW σ u H=>?_) Am ?_;obtain⟨A',c',E⟩:=H 44 _ rfl AJ;simp only[AQ,E];exact .inl ⟨_,_,by go_simp,Ae.refl _,rfl⟩;refine Di 46 _ (by rfl) rfl rfl (by rfl) (λW σ u H=>?_) Am ?_;have E:σ 45=_:=H 45 _ rfl AJ;simp only[AQ,E];exact .inl ⟨_,_,by go_simp,Ae.refl _,rfl⟩;refine Di 47 _ (by rfl) rfl rfl (by rfl) (λW σ u H=>?_) Am ?_;have E:σ 46=_:=H 46 _ rfl AJ;simp only[AQ,E];exact .inr ⟨_,_,by go_simp,(aY W).mono λe w'⟨T,ad⟩=>⟨_,T,ad,rfl⟩⟩;refine Di 48 _ (by rfl) rfl rfl (by rfl) (λW σ u H=>?_) Am ?_;have E:σ 37=_:=H 37 _ rfl AJ;have V:σ 47=_:=H 47 _ rfl AJ;simp only[AQ,E,V];exact .inl ⟨_,_,by go_simp,Ae.refl _,rfl⟩;refine Di 7 _ (by rfl) rfl rfl (by rfl) (λW σ u H=>?_) Am ?_
 . simp only[AQ];exact .inl ⟨_,_,by go_simp,by grind,W,rfl,u.size,Aq.new W _ _⟩
 refine AN λW σ bh H=>?_;obtain⟨g,aK,bi,U⟩:=H 7 _ rfl;have aL:σ 48=_:=H 48 _ rfl;simp only[AQ,aK,aL];have f0:=U.frozen 0;have f1:=U.frozen 1;have f2:=U.frozen 2;have f3:=U.frozen 3;have d0:=U.cell 0;have d1:=U.cell 1;have d2:=U.cell 2;have d3:=U.cell 3;obtain⟨O,ao⟩:∃x,S6 W g a0 J a2 a3=x:=⟨_,rfl⟩;have aC:Aq O g 302 #[a0,J,a2,a3]:=ao▸Acv U;have aq:Ae w2 O:=ao▸Abh bh bi _ _ _ _;unfold S6 at ao;have aM:Ae O (O.alloc (.cells #[()] 3)):=(Ae.refl _).alloc _;have au:=Aq.new O 3 #[()];have aN:=aC.alloc (.cells #[()] 3);generalize bj:O.alloc (.cells #[()] 3)=aD at *;have f8:=au.frozen 0;have d8:=au.cell 0;have aO:=au.ad 0 ();have ag:=aN.grown (IQ aD O 0 ()) (λe=>by have:=aC.lt;have e:g=O:=xg e;omega);have aP:Ae w2 (aD.setCell O ()):=(aq.trans aM).setCell (p:=O) aq.size _;generalize bk:aD.setCell O ()=av at *;have bn:=ag.cell 0;have br:=ag.cell 1;have bt:=ag.cell 2;have bu:=ag.cell 3;have bw:=aP;have bx:=aO;have aw:(w2.heap.size<=O.heap.size):=aq.size;have bD:∀w,(Instr.index 302 (.agg #[a0,J,a2,a3]) ()).run prog w=.ok a0 w:=λ_=>AJ;have bE:∀w,(Instr.index 302 (.agg #[a0,J,a2,a3]) AF).run prog w=.ok J w:=λ_=>AJ;have bF:∀w,(Instr.index 302 (.agg #[a0,J,a2,a3]) (.int .i64 2)).run prog w=.ok a2 w:=λ_=>AJ;have bG:∀w,(Instr.index 302 (.agg #[a0,J,a2,a3]) (.int .i64 3)).run prog w=.ok a3 w:=λ_=>AJ;clear H aK aL U ak al aC aq aM au aN aO ag aP;go_wp2;clear bn br bt bu d0 d1 d2 d3 f0 f1 f2 f3 f8 d8 ao bj bk;generalize O=Z at *;go_loopw[51](λi wr=>∃(j:Nat)(s:Int),i=j/\Ai7 a0 J a2 a3 j s/\Aq wr Z 3 #[s]/\Ae w2 wr)(λi _=>4-(intOf i).toNat);case atStart=>exact⟨0,0,rfl,.inl ⟨rfl,rfl⟩,bx,bw⟩
 case round=>
  obtain⟨j,s,rfl,bz,aa,ah⟩:=hrel;have aj:=a7;rcases bz with⟨rfl,rfl⟩|⟨rfl,rfl⟩|⟨rfl,rfl⟩|⟨rfl,rfl⟩|⟨rfl,rfl⟩
  . skip;go_wp2_with fail
    refine(Ob (a0:Int) 0 Z wr aa (by have:=aj;omega)).mono ?_;rintro e av⟨rfl,rfl⟩;go_wp2;go_roundw;case rel=>exact⟨1,a0,by go_num,.inr (.inl ⟨rfl,rfl⟩),aa.ad 0 _,ah.setCell (p:=Z) aw _⟩
    case measure=>simp[intOf]
  . skip;go_wp2_with fail
    refine(Ob (J:Int) a0 Z wr aa (by have:=aj;omega)).mono ?_;rintro e av⟨rfl,rfl⟩;go_wp2;go_roundw;case rel=>exact⟨2,a0+J,by go_num,.inr (.inr (.inl ⟨rfl,rfl⟩)),aa.ad 0 _,ah.setCell (p:=Z) aw _⟩
    case measure=>simp[intOf]
  . skip;go_wp2_with fail
    refine(Ob (a2:Int) (a0+J) Z wr aa (by have:=aj;omega)).mono ?_;rintro e av⟨rfl,rfl⟩;go_wp2;go_roundw;case rel=>exact⟨3,a0+J+a2,by go_num,.inr (.inr (.inr (.inl ⟨rfl,rfl⟩))),aa.ad 0 _,ah.setCell (p:=Z) aw _⟩
    case measure=>simp[intOf]
  . skip;go_wp2_with fail
    refine(Ob (a3:Int) (a0+J+a2) Z wr aa (by have:=aj;omega)).mono ?_;rintro e av⟨rfl,rfl⟩;go_wp2;go_roundw;case rel=>exact⟨4,a0+J+a2+a3,by go_num,.inr (.inr (.inr (.inr ⟨rfl,rfl⟩))),aa.ad 0 _,ah.setCell (p:=Z) aw _⟩
    case measure=>simp[intOf]
  . have bH:=aa.cell 0;skip;go_wp2;go_ret;exact⟨_,rfl,by have:=aj;have:=a8;omega,aU.trans (am.trans ah)⟩
def UT (S : Nat) (B : AD) (m d : Nat) (l : List AZ) (w : Aj) (h : Bx w B m l) (u : m ≤ 4) (E : 1 ≤ S ∧ S ≤ 32) (U : EV l) :
    AC 59 #[.agg #[m, S], .slice B m d] w fun e w' => e = .returned () ∧ Ae w w' := by
  have H : Ae w (w.alloc (.cells #[m, S] 67)) := (Ae.refl _).alloc _
  have hb := Aq.new w 67 #[m, S]
  generalize V : w.alloc (.cells #[m, S] 67) = Z at *
  have aa := hb.cell 0
  have ab := hb.cell 1
  have ac := h.ext H
  have ad := H
  have O := hb
  have ae := FE u E.2
  clear h H hb
  go_enter func59, ntmps59
  go_wp2_with fail
  refine (AgF S B m d l Z ac u E U).mono ?_
  rintro e af ⟨v, rfl, ⟨ag, ah⟩, J⟩
  have d0 : (v == 0) = false := by have : v ≠ 0 := Ad
                                   simpa using this
  have d1 : decide ((500000 : Int) < v) = false := zn Ad
  have aa := J.cell (O.cell 0)
  have ab := J.cell (O.cell 1)
  clear V ag ah
  go_wp2_with fail
  refine (LZ m S af u E).mono ?_
  rintro e w2 ⟨rfl, T⟩
  have aj := J.trans T
  have d2 : decide ((900 : Int) < ((BJ m S : Nat) : Int)) = false := zn (by have := ae; omega)
  clear T
  go_wp2
  go_ret
  exact ⟨rfl, ad.trans aj⟩
def Aip(m S:Int)(P:Prop)(w:Aj)(e:Bz)(w':Aj):Prop:=∃(v:Aw)(u:Int),e=.returned (.tuple #[v,u])/\(u=0↔P)/\(∃a b:Int,v=.agg #[a,b]/\(P->a=m/\b=S))/\Ae w w'
def UP(S K zj:Int)(A:AD)(n c:Nat)(zc:List Ba)(B:AD)(m d:Nat)(l:List AZ)(w:Aj)(h:Bi w A n zc)(an:Bx w B m l)(ao:n<=1000000000)(aq:m<=4)(aN:Bj S)(aO:Bj K)(aP:∀x∈l,Bj x.st/\Bj x.an/\Bj x.aD):AC 18 #[.agg #[S,K,zj,.slice A n c],.slice B m d] w (Aip m S (H7 S K zj zc/\EV l) w):=by
 have aa:Ae w ((w.alloc (.cells #[S,K,zj,.slice A n c] 24)).alloc (.cells #[(),()] 67)):=((Ae.refl _).alloc _).alloc _;have J:=(Aq.new w 24 #[S,K,zj,.slice A n c]).alloc (.cells #[(),()] 67);have ag:=Aq.new (w.alloc (.cells #[S,K,zj,.slice A n c] 24)) 67 #[(),()];rw[z3]at ag;generalize aQ:(w.alloc (.cells #[S,K,zj,.slice A n c] 24)).alloc (.cells #[(),()] 67)=au at *;have av:=J.cell 0;have aw:=J.cell 1;have ax:=J.cell 2;have ay:=J.cell 3;have az:=h.ext aa;have aA:=an.ext aa;have ab:=aa;have ac:=J;have ah:=ag;clear h aa J ag;go_enter func18,ntmps18;go_wp2_with fail
 refine(Fq S K zj A n c zc au az ao aN aO).mono ?_;rintro e aR⟨aV,aB,rfl,aC,aD⟩;have aj:=zk aC;clear aC aQ;go_wp2_with fail
 refine(Iz B m d l aR (aA.ext aD) Ad aP).mono ?_;rintro e w2⟨aW,aE,rfl,aF,aG⟩;have ak:=zk aF;have u:=aD.trans aG;have av:=u.cell (ac.cell 0);have aw:=u.cell (ac.cell 1);have ax:=u.cell (ac.cell 2);have ay:=u.cell (ac.cell 3);have O:=ah.ext u;have d0:=O.cell 0;have d1:=O.cell 1;have f0:=O.frozen 0;have f1:=O.frozen 1;clear aG aF;by_cases H:aB=0;subst H;by_cases H:aE=0
 . subst H;have ad:=aj.1 rfl;have al:=ak.1 rfl;obtain⟨E,rfl⟩:∃E:Nat,S=(E:Int):=⟨S.toNat,by have:=ad.1;omega⟩;have aH:(Dt au E K zj A n zc B m l):=⟨az,aA,ao,aq,ad,al⟩;have aI:(H7 (E:Int) K zj zc/\EV l):=⟨ad,al⟩;have d5:decide ((64:Int)<(m:Int))=false:=zn Ad;clear ad al;go_wp2_with fail
   refine(KF E K zj A n c zc B m d l w2 (aH.ext u)).mono ?_;rintro e T⟨rfl,am⟩;have aJ:Ae T (T.alloc (.cells #[m,E] 67)):=(Ae.refl _).alloc _;have ae:=Aq.new T 67 #[m,E];generalize aX:T.alloc (.cells #[m,E] 67)=U at *;have aK:=u.trans (am.trans aJ);have aL:=ae;have V:=ah.ext aK;have aY:=ae.cell 0;have aZ:=ae.cell 1;have a1:=V.cell 0;have a5:=V.cell 1;have a6:=V.frozen 0;have a7:=V.frozen 1;have aS:w.heap.size<=w.heap.size+1:=by omega
   have a8:T.heap.size≠w.heap.size+1:=by have:=(ab.trans u).size;have:=ah.lt;have:=u.size;have:=am.size;omega
   have aT:Ae w U:=ab.trans aK;clear am aJ ae av aw ax ay d0 d1 f0 f1;go_wp2;have aM:Ae w U.drew:=aT.drew;go_region_law((go_simp;go_at_call 59;(refine(UT E B m d l _ (an.ext aM) aq aH.bc aI.2).mono ?_);rintro e a9⟨rfl,af⟩;have u0:=af.cell (show U.drew.cell? _=_ from aL.cell 0);have u1:=af.cell (show U.drew.cell? _=_ from aL.cell 1);have Z:=Aq.ext (w:=U.drew) V af;have v0:=Z.cell 0;have v1:=Z.cell 1;have ba:=Z.frozen 0;have bc:=Z.frozen 1;skip))
   all_goals
    go_wp2;try rw[x8]
    refine yw (CS rfl _ _ (w+1) 67 #[m,E] (0,0) _ rfl (Jh Z) underlying67 rfl AJ) rfl ?_;exact⟨_,0,rfl,⟨λ_=>aI,λ_=>rfl⟩,⟨_,_,rfl,λ_=>⟨rfl,rfl⟩⟩,I8 (aM.trans af) aS _ _⟩
 . have aU:(aE !=0)=true:=by simpa using H
   skip;go_wp2;try rw[x8]
   refine yw (CS rfl _ _ (w+1) 67 #[(),()] (0,0) _ rfl (Jh O) underlying67 rfl AJ) rfl ?_;exact⟨_,2,rfl,⟨λh=>(by cases h),λh=>absurd (ak.2 h.2) H⟩,⟨0,0,rfl,λh=>absurd (ak.2 h.2) H⟩,I8 (ab.trans u) Ad _ _⟩
 have aU:(aB !=0)=true:=by simpa using H
 skip;go_wp2;try rw[x8]
 refine yw (CS rfl _ _ (w+1) 67 #[(),()] (0,0) _ rfl (Jh O) underlying67 rfl AJ) rfl ?_;exact⟨_,2,rfl,⟨λh=>(by cases h),λh=>absurd (aj.2 h.1) H⟩,⟨0,0,rfl,λh=>absurd (aj.2 h.1) H⟩,I8 (ab.trans u) Ad _ _⟩
def AhA(n S a b:Nat)(p:Addr)(w:World)(u:n<=4)(E:1<=S/\S<=32)(O:a<n)(hb:b<n)(H:w.cell? p=some (.int .i64 (n:Int)))(J:w.cell? ⟨p.block,p.off+1,none⟩=some (.int .i64 (S:Int))):Calls prog 134 #[.int .i64 1,a,b,.pointer (some p)] w λe w'=>e=.returned (Cx n a b)/\Ae w w':=by have:=Pc n S a b 1 p w u E Ad (by unfold Cj;simp;omega) (by unfold Cj;simp;omega) H J;rwa[JD]at this
def Ahn(n S a:Nat)(p:Addr)(w:World)(u:n<=4)(E:1<=S/\S<=32)(O:a<n)(H:w.cell? p=some (.int .i64 (n:Int)))(J:w.cell? ⟨p.block,p.off+1,none⟩=some (.int .i64 (S:Int))):Calls prog 134 #[.int .i64 2,a,(),.pointer (some p)] w λe w'=>e=.returned (Er n a)/\Ae w w':=by have:=Pc n S a 0 2 p w u E Ad (by unfold Cj;simp;omega) (by unfold Cj;simp) H J;rwa[UY]at this
def Aa6(n S a b:Nat)(p:Addr)(w:World)(u:n<=4)(E:1<=S/\S<=32)(O:a<=n)(hb:b<S)(H:w.cell? p=some (.int .i64 (n:Int)))(J:w.cell? ⟨p.block,p.off+1,none⟩=some (.int .i64 (S:Int))):Calls prog 134 #[.int .i64 3,a,b,.pointer (some p)] w λe w'=>e=.returned (Dd n S a b)/\Ae w w':=by have:=Pc n S a b 3 p w u E Ad (by unfold Cj;simp;omega) (by unfold Cj;simp;omega) H J;rwa[RH]at this
def Agn(n S a b:Nat)(p:Addr)(w:World)(u:n<=4)(E:1<=S/\S<=32)(H:a<n)(hb:b<S)(J:w.cell? p=some (.int .i64 (n:Int)))(O:w.cell? ⟨p.block,p.off+1,none⟩=some (.int .i64 (S:Int))):AC 134 #[.int .i64 3,.int .i64 ((a:Int)+1),b,.pointer (some p)] w λe w'=>e=.returned (Dd n S (a+1) b)/\Ae w w':=Aa6 n S (a+1) b p w u E H hb J O
def RQ(zc:List Ba)(n S:Nat)(x:AZ)(i k y:Nat):AT:=(List.range y).flatMap λb=>Ic zc n S x i k b
def Up(zc:List Ba)(n S:Nat)(x:AZ)(i z:Nat):AT:=(List.range z).flatMap λk=>RQ zc n S x i k S
def Wc(zc:List Ba)(l:List AZ)(S z:Nat):AT:=(List.range z).flatMap λi=>Od zc l.length S (opAt l i) i
def Adw(zc:List Ba)(n S:Nat)(x:AZ)(i k y:Nat):RQ zc n S x i k (y+1)=RQ zc n S x i k y++Ic zc n S x i k y:=by unfold RQ;rw[xi,y4];simp
def Aep(zc:List Ba)(n S:Nat)(x:AZ)(i z:Nat):Up zc n S x i (z+1)=Up zc n S x i z++RQ zc n S x i z S:=by unfold Up;rw[xi,y4];simp
def AeI(zc:List Ba)(l:List AZ)(S z:Nat):Wc zc l S (z+1)=Wc zc l S z++((if(opAt l z).an=-1 then[]else[[Er l.length z]])++Up zc l.length S (opAt l z) z l.length):=by unfold Wc;rw[xi,y4];simp[Od,Up,RQ]
def XF{zc:List Ba}{n S:Nat}{x:AZ}{i k b y:Nat}(h:Dq zc x b=some ((y:Nat):Int)):Ic zc n S x i k b=[-Cx n i k,-Er n i,-Dd n S k b,Dd n S (k+1) y]::if x.an=-1 then[[-Cx n i k,Er n i,-Dd n S k b,Dd n S (k+1) b]]else[]:=by unfold Ic;rw[h];simp
def Yx{zc:List Ba}{n S:Nat}{x:AZ}{i k b:Nat}(h:Dq zc x b=none):Ic zc n S x i k b=[-Cx n i k,-Er n i,-Dd n S k b]::if x.an=-1 then[[-Cx n i k,Er n i,-Dd n S k b,Dd n S (k+1) b]]else[]:=by unfold Ic;rw[h];simp
def Sn{zc:List Ba}{S:Nat}(h:∀r∈zc,0<=r.ax/\r.ax<S){x:AZ}{s E:Int}(e:Dq zc x s=some E):∃y:Nat,E=(y:Int)/\y<S:=by
 unfold Dq DT at e;cases u:zc.find? (λr=>r.st==s&&r.aq==x.aq)with
 |none=>rw[u]at e;cases e
 |some r=> rw[u]at e;simp only[Option.map_some]at e;split at e;cases e;cases e;have:=h r (y0 u);exact⟨r.ax.toNat,Ad,Ad⟩
def Ait{n a:Nat}(u:n<=4)(E:a<n):0<Er n a/\Er n a<=1000000:=by unfold Er;have H:n*n<=4*4:=ym u u;omega
def Adj(w:Aj)(x y z:Int):Ay (w.alloc (.cells #[x,y,z] 3)) w (.slice w 3 3) [x,y,z]:=Gr (w:=w.alloc (.cells #[x,y,z] 3)) (Aq.new w 3 #[x,y,z]) AG
def AcK(w:Aj)(x y z u:Int):Ay (w.alloc (.cells #[x,y,z,u] 3)) w (.slice w 4 4) [x,y,z,u]:=Gr (w:=w.alloc (.cells #[x,y,z,u] 3)) (Aq.new w 3 #[x,y,z,u]) AG
def AeR(w:Aj)(za:Nat)(x:Int)(hb:za<=w):I4 ((w.alloc (.cells #[x] 3)).alloc (.cells #[.slice w 1 1] 86)) za (some ⟨w+1,0,none⟩) 1 [.slice w 1 1] [[x]]:=by have h:=Ho (w.alloc (.cells #[x] 3)) za _ _ _ [x] ((OU w x).less hb);rwa[z3]at h
def Ac7(w:Aj)(za:Nat)(x y z u:Int)(hb:za<=w):I4 ((w.alloc (.cells #[x,y,z,u] 3)).alloc (.cells #[.slice w 4 4] 86)) za (some ⟨w+1,0,none⟩) 1 [.slice w 4 4] [[x,y,z,u]]:=by have h:=Ho (w.alloc (.cells #[x,y,z,u] 3)) za _ _ _ [x,y,z,u] ((AcK w x y z u).less hb);rwa[z3]at h
def Vp(S:Nat)(K zj:Int)(A:AD)(n c:Nat)(zc:List Ba)(B:AD)(m d:Nat)(l:List AZ)(w:Aj)(h:Dt w S K zj A n zc B m l):AC 24 #[.agg #[S,K,zj,.slice A n c],.slice B m d] w (MJ (FL zc l S) w):=by
 have aN:Ae w (w.alloc (.cells #[S,K,zj,.slice A n c] 24)):=(Ae.refl _).alloc _;have hb:=Aq.new w 24 #[S,K,zj,.slice A n c];generalize cP:w.alloc (.cells #[S,K,zj,.slice A n c] 24)=cQ at *;have a8:=hb.cell 0;have a9:=hb.cell 1;have ba:=hb.cell 2;have bc:=hb.cell 3;have H:=zk (h.ext aN);have b0:=zk aN;have cR:=zk hb;have ah:=zk h.bc;have ab:=zk h.hm;have bd:=zk h.len;have b1:=zk h.ax;have dI:m<=4:=h.hm;have dJ:S<=32:=h.bc.2;clear h aN hb;go_enter func24,ntmps24;go_wp2_with fail
 refine(KF S K zj A n c zc B m d l cQ H).mono ?_;rintro e aB⟨rfl,b2⟩;have b3:Ae aB (aB.alloc (.cells #[m,S] 67)):=(Ae.refl _).alloc _;have aO:=Aq.new aB 67 #[m,S];generalize cS:aB.alloc (.cells #[m,S] 67)=w2 at *;have aP:=aO.cell 0;have aQ:=aO.cell 1;have cT:=zk (b2.trans b3);have be:=zk aO;clear b2 b3 aO cP a8 a9 ba bc;go_wp2_with fail
 refine(EL m S w2 ab ah).mono ?_;rintro e b4⟨rfl,aC⟩;have aP:=aC.cell (be.cell 0);have aQ:=aC.cell (be.cell 1);have cU:=zk (cT.trans aC);have bf:=zk (be.ext aC);clear aC cS;generalize aB=dK at *;go_wp2_with fail
 refine(AbA m S b4).mono ?_;rintro e E⟨rfl,b5,bh⟩;have aD:=zk (cU.trans bh);have b6:=zk (bf.ext bh);have am:=zk b5;have aE:=cR.ext aD;have a8:=aE.cell 0;have a9:=aE.cell 1;have ba:=aE.cell 2;have bc:=aE.cell 3;clear bh aP aQ b5 aE;generalize b4=aR at *;go_wp2;clear a8 a9 ba bc;go_loopw[8,32](λv i wr=>∃(x:Nat)(M:AT),x<=m/\i=x/\AW wr E v M/\M=Wc zc l S x/\M.length<=300*x/\Ae E wr)(λ_ i _=>m-(intOf i).toNat);case atStart=>exact⟨0,[],zx _,rfl,AW.nil _ _,by simp[Wc],AG,Ae.refl _⟩
 case round=>
  obtain⟨x,M,aN,rfl,ac,ad,dL,V⟩:=hrel;have bi:=zk ac;have b7:=zk ad;have cV:=zk V;by_cases aF:x<m
  . obtain⟨dM,J,O,T,u,rs,rfl,b8,cW,cX,cY,cZ,c0⟩:=(H.bG.ext (aD.trans V)).at_ aF;have c9:=zk (EO b8);have dN:(x:Int)<(m:Int):=Ad;have dO:(0:Int)<=(x:Int):=Ad;have b9:=Aq.new wr 96 #[J,O,T,u,rs];have bj:Ae wr (wr.alloc (.cells #[J,O,T,u,rs] 96)):=(Ae.refl wr).alloc _;generalize da:wr.alloc (.cells #[J,O,T,u,rs] 96)=dc at *;have dd:=zk b9;have cc:=zk (V.trans bj);have de:=zk (bi.ext bj);have df:=zk (λW(ae:Ae E W)=>Ahn m S x aR W ab ah aF (ae.cell (am.cell 0)) (ae.cell (am.cell 1)));clear b8 ac ad V bj b9;go_wp2_with fail
    refine(df dc cc).mono ?_;rintro e dg⟨rfl,aS⟩;have aT:=zk (cc.trans aS);have bk:=zk (de.ext aS);have ao:=dd.ext aS;have bn:=zk ao;have br:=ao.cell 0;have bt:=ao.cell 1;have bu:=ao.cell 2;have aG:=ao.cell 3;have bw:=ao.cell 4;have ce:=zk (Ait ab aF);have aU:=zk (AeI zc l S x);rw[c9.out,bd.out]at aU;dsimp only at aU;clear da cW cX cY cZ c0 ao aS;obtain⟨U,bx⟩:∃z,Er m x=z:=⟨_,rfl⟩;rw[bx]at ce aU⊢;have dh:=zk bx;clear bx;generalize wr=bz at *;go_upto_if 42 with fail
    go_cut[8](λv ay=>AW ay E v (M++if u=-1 then[]else[[U]])/\Ae E ay/\Aq ay bz 96 #[J,O,T,u,rs])
    case first=>
     by_cases ag:u=-1
     . subst ag;go_wp2;go_meet;exact⟨by simpa using bk.out,aT.out,bn.out⟩
     . have di:(u !=-1)=true:=by simpa using ag
       have cf:=zk ag;have aH:=zk (AeR dg E U aT.size);clear ag;go_wp2_with(at_builtin;refine EM _ rfl (.tmp 43) (.tmp 46) rfl E _ M rfl ((bk.out.ext ((Ae.refl _).alloc _)).ext ((Ae.refl _).alloc _)) _ _ _ _ [[U]] rfl aH.out Ad (by have:=aT.out.size;simp;omega) ?_;intro aI aJ aK cg aj aq an _;have bA:=zk aj;have bB:Hid (Ae E cg):=Ae.grown ((aT.out.alloc _).alloc _) aq an;have bC:=zk (Aq.grown ((bn.out.alloc _).alloc _) aq (λe=>bk.out.ai bn.out Ax e.symm));clear aj aq an)
       go_meet;exact⟨by rw[zo cf];exact bA,bB,bC⟩
    case rest=>
     obtain⟨ch,bD,an⟩:=hcut;generalize wc=cg at *;have bE:Hid ((if u=-1 then([]:AT)else[[U]]).length<=1):=zk (by split<;>simp);generalize(if u=-1 then([]:AT)else[[U]])=aL at *;have bB:=zk bD;have dj:=zk ch;have bC:=zk an;have aP:=bD.cell (b6.cell 0);clear ch bD an br bt bu aG bw;go_wp2;clear aP;go_loopw[8,50](λv au wr=>∃(k:Nat)(ak:AT),k<=m/\au=k/\AW wr E v (M++aL++ak)/\ak=Up zc m S ⟨J,O,T,u,rs⟩ x k/\ak.length<=64*k/\Ae E wr/\Aq wr bz 96 #[J,O,T,u,rs])(λ_ au _=>m-(intOf au).toNat);case atStart=>exact⟨0,[],zx _,rfl,by rw[yg];exact dj,by simp[Up],AG,bB,bC⟩
     case round=>
      obtain⟨k,ak,dP,rfl,ac,ad,dQ,V,av⟩:=hrel;have ci:=zk ac;have cj:=zk ad;have cm:=zk V;have dl:=zk av;by_cases bF:k<m
      . have aQ:=V.cell (b6.cell 1);have dR:(k:Int)<(m:Int):=Ad;clear ac ad V av;go_wp2;clear aQ;go_loopw[8,55](λv au wr=>∃(y:Nat)(al:AT),y<=S/\au=y/\AW wr E v (M++aL++ak++al)/\al=RQ zc m S ⟨J,O,T,u,rs⟩ x k y/\al.length<=2*y/\Ae E wr/\Aq wr bz 96 #[J,O,T,u,rs])(λ_ au _=>S-(intOf au).toNat);case atStart=>exact⟨0,[],zx _,rfl,by rw[yg];exact ci,by simp[RQ],AG,cm,dl⟩
        case round=>
         obtain⟨y,al,dS,rfl,ac,ad,dT,V,av⟩:=hrel;have bG:=zk ac;have bH:=zk ad;have aw:=zk V;have bI:=zk av;by_cases aV:y<S
         . have dm:=zk (λW(ae:Ae E W)=>AhA m S x k aR W ab ah aF bF (ae.cell (am.cell 0)) (ae.cell (am.cell 1)));have dn:=zk (λW(ae:Ae E W)=>Aa6 m S k y aR W ab ah Ad aV (ae.cell (am.cell 0)) (ae.cell (am.cell 1)));have cn:=zk (λ(z:Nat)(aW:z<S)W(ae:Ae E W)=>Agn m S k z aR W ab ah bF aW (ae.cell (am.cell 0)) (ae.cell (am.cell 1)));have co:=zk (Adw zc m S ⟨J,O,T,u,rs⟩ x k y);have bJ:=zk (λ(z:Nat)(h:Dq zc ⟨J,O,T,u,rs⟩ y=some ((z:Nat):Int))=>XF (n:=m) (S:=S) (i:=x) (k:=k) h);have bK:=zk (λ(h:Dq zc ⟨J,O,T,u,rs⟩ y=none)=>Yx (n:=m) (S:=S) (i:=x) (k:=k) h);have dU:(y:Int)<(S:Int):=Ad;have cp:=Qj (b:=k) ab aF bF;have cq:=SZ (n:=m) (S:=S) (a:=k) (b:=y) ab (by have:=ah.out;omega) Ad aV;have cr:=ce.out;rw[dh.out]at bJ bK;generalize Cx m x k=Z at *;generalize Dd m S k y=aa at *;have v0:IntKind.i64.wrap (-U)=-U:=z5 _ Ad;have v1:IntKind.i64.wrap (-Z)=-Z:=z5 _ Ad;have dV:IntKind.i64.wrap (-aa)=-aa:=z5 _ Ad;have dW:=zk cr;have dX:=zk cp;have dY:=zk cq;clear ac ad V av cr cp cq;go_wp2_with fail
           refine(dm wr aw).mono ?_;rintro e dp⟨rfl,bL⟩;have dq:=zk (aw.trans bL);have cs:=zk bL;clear bL;go_wp2_with fail
           refine(dn dp dq).mono ?_;rintro e az⟨rfl,bM⟩;have ct:Ae az (az.alloc (.cells #[.int .i64 (-Z),.int .i64 (-U),.int .i64 (-aa)] 3)):=(Ae.refl _).alloc _;have cu:=Adj az (-Z) (-U) (-aa);generalize dr:az.alloc (.cells #[.int .i64 (-Z),.int .i64 (-U),.int .i64 (-aa)] 3)=ds at *;have aX:=cs.trans (bM.trans ct);have dt:=zk aX;have cv:=zk (aw.trans aX);have bN:Hid (wr.heap.size<=az.heap.size):=zk (Ae.size_le (cs.trans bM));have du:=zk cu;have ax:=bI.ext aX;have dv:=zk ax;have br:=ax.cell 0;have bt:=ax.cell 1;have bu:=ax.cell 2;have aG:=ax.cell 3;have bw:=ax.cell 4;clear bM ct cu aX ax;go_wp2_with fail
           refine(Xa S K zj A n c zc J O T u rs y ds (H.cb.ext (aD.trans cv)) H.ca).mono ?_;rintro e dw⟨rfl,aM⟩;have bO:=zk (dt.trans aM);have cx:=zk (cv.trans aM);have cy:=zk (du.ext aM);have dZ:=zk (dv.ext aM);have ea:=zk (bG.ext bO);clear aM dr br bt bu aG bw;generalize az=eb at *;obtain⟨C,cz⟩:∃C:An,C=[-Z,-U,-aa]++match Dq zc ⟨J,O,T,u,rs⟩ y with|some bP=>[Dd m S (k+1) bP.toNat]|none=>[]:=⟨_,rfl⟩
           have bQ:=zk cz;clear cz;have aY:Hid (Ic zc m S ⟨J,O,T,u,rs⟩ x k y=C::if u=-1 then[[-Z,U,-aa,Dd m S (k+1) y]]else[]):=zk (by
            rw[bQ.out];cases af:Dq zc ⟨J,O,T,u,rs⟩ y with
            |none=>rw[bK af];simp
            |some bP=> obtain⟨z,rfl,_⟩:=Sn b1 af;rw[bJ z af];simp)
           clear bJ bK;go_upto_if 80 with fail
           go_cut[16,17,18](λdx _ _ ay=>∃(aI:AD)(aJ aK:Nat),dx=.slice aI aJ aK/\Ay ay E (.slice aI aJ aK) C/\Ae wr ay)
           case first=>
            cases af:Dq zc ⟨J,O,T,u,rs⟩ y with
            |none=>
             have bR:Hid (Ih zc ⟨J,O,T,u,rs⟩ y=(0,false)):=zk (by unfold Ih;rw[af]);have bS:C=[-Z,-U,-aa]:=by rw[bQ.out,af];simp
             rw[bR.out];clear af;subst bS;go_wp2;go_meet;exact⟨_,_,_,rfl,cy.less (z7 aw.size bN),bO⟩
            |some bP=>
             obtain⟨z,rfl,aW⟩:=Sn b1 af;have bR:Hid (Ih zc ⟨J,O,T,u,rs⟩ y=((z:Int),true)):=zk (by unfold Ih;rw[af]);have bS:C=[-Z,-U,-aa,Dd m S (k+1) z]:=by rw[bQ.out,af];simp
             have aZ:=SZ (n:=m) (S:=S) (a:=k+1) (b:=z) ab (by have:=ah.out;omega) Ad aW;rw[bR.out];clear af;subst bS;have bT:=zk (cn z aW);generalize Dd m S (k+1) z=aA at *;have bf:=zk aZ;clear aZ;go_wp2_with fail
             refine(bT dw cx).mono ?_;rintro e dy⟨rfl,a1⟩;have cA:=zk (bO.trans a1);have ec:=zk (cx.trans a1);have cB:=zk (cy.ext a1);have dz:=zk (BD dy (.int .i64 aA) 3);clear a1;go_wp2_with(at_builtin;refine BW _ rfl (.tmp 81) (.tmp 87) rfl wr.heap.size _ [-Z,-U,-aa] rfl ((cB.out.less bN.out).alloc _) _ _ aA rfl dz.out (by have:=bf.out;omega) (by simp) (by have:=cA.out.size;simp;omega) ?_;intro ed bU cC cD a5;have bV:=zk cC;have dA:Hid (Ae wr bU):=zk (Ae.grown (cA.out.alloc _) cD (λk e=>by have:=(cB.out.J k e).1;have:=bN.out;omega));clear cC cD a5)
             go_meet;obtain⟨ee,ef,eg,rfl⟩:=Ay.form bV;exact⟨_,_,_,rfl,bV.less aw.size,dA⟩
           case rest=>
            obtain⟨aI,aJ,aK,rfl,aj,a6⟩:=hcut;generalize wc=bU at *;have bV:=zk aj;have cE:=aw.trans a6;have cF:=zk cE;have cG:=zk (bG.ext a6);have a5:=bI.ext a6;have cH:=zk a5;have aH:=zk (Ho bU E _ _ _ _ aj);clear aj a6 cE a5;by_cases ag:u=-1;focus subst ag;have aZ:=SZ (n:=m) (S:=S) (a:=k+1) (b:=y) ab (by have:=ah.out;omega) Ad aV;have bT:=zk (cn y aV);rw[zq rfl]at aY;generalize Dd m S (k+1) y=aA at *;clear aZ
            rotate_left;focus
             have di:(u==-1)=false:=by simpa using ag
             have cf:=zk ag;rw[zo ag]at aY;clear ag
            all_goals go_wp2_with(at_builtin;refine EM _ rfl (.tmp 89) (.tmp 91) rfl E _ (M++aL++ak++al) rfl (cG.out.ext ((Ae.refl _).alloc _)) _ _ _ _ [C] rfl aH.out (by have:=bE.out;simp only[zu];omega) (by have:=cF.out.size;simp;omega) ?_;intro eh ei ej cI cJ bW cK _;have cL:=zk cJ;have bX:Hid (Ae E cI):=Ae.grown (cF.out.alloc _) bW cK;have bY:=Aq.grown (cH.out.alloc _) bW (λe=>cG.out.ai cH.out Ax e.symm);have cM:=zk bY;have aG:=bY.cell 3;clear cJ bW cK bY)
            go_roundw;case rel=>exact⟨y+1,al++[C],Ad,by go_num,by have h:=cL.out;simp only[yy]at h⊢;exact h,by rw[co.out,bH.out,aY.out],Ca,bX,cM⟩
            case measure=>simp[intOf];omega
            refine(bT cI bX).mono ?_;rintro e dB⟨rfl,a7⟩;have bZ:=zk (bX.trans a7);have cN:=zk (cL.ext a7);have cO:=zk (cM.ext a7);have aH:=zk (Ac7 dB E (-Z) U (-aa) aA bZ.size);clear a7 aG;go_wp2_with(at_builtin;refine EM _ rfl (.tmp 96) (.tmp 106) rfl E _ (M++aL++ak++al++[C]) rfl ((cN.out.ext ((Ae.refl _).alloc _)).ext ((Ae.refl _).alloc _)) _ _ _ _ [[-Z,U,-aa,aA]] rfl aH.out (by have:=bE.out;simp only[zu,List.length_singleton];omega) (by have:=bZ.out.size;simp;omega) ?_;intro aI aJ aK dC aj aq an _;have bA:=zk aj;have dD:Hid (Ae E dC):=Ae.grown ((bZ.out.alloc _).alloc _) aq an;have dE:=zk (Aq.grown ((cO.out.alloc _).alloc _) aq (λe=>cN.out.ai cO.out Ax e.symm));clear aj aq an)
            go_roundw;case rel=>exact⟨y+1,al++[C,[-Z,U,-aa,aA]],Ad,by go_num,by have h:=bA.out;simp only[yy,List.singleton_append]at h⊢;exact h,by rw[co.out,bH.out,aY.out],Ca,dD,dE⟩
            case measure=>simp[intOf];omega
         obtain rfl:S=y:=Ad;clear ac ad V av;go_wp2;go_roundw;case rel=>exact⟨k+1,ak++al,Ad,by go_num,by rw[<-yy];exact bG,by rw[Aep,cj.out,bH.out],by have:=ah.out;simp;omega,aw,bI⟩
         case measure=>simp[intOf];omega
      obtain rfl:m=k:=Ad;clear ac ad V av;go_wp2;go_roundw;case rel=>exact⟨x+1,M++(aL++ak),Ad,by go_num,by rw[<-yy];exact ci,by rw[aU.out,b7.out,cj.out],by have:=bE.out;have:=ab.out;simp;omega,cm⟩
      case measure=>simp[intOf];omega
  obtain rfl:m=x:=Ad;clear ac ad V;go_wp2;go_ret;obtain⟨dF,dG,dH,e,_⟩:=bi.form;subst e;have:=bi.out;rw[b7.out]at this;refine⟨dF,dG,dH,rfl,AW.less (by unfold FL;rw[bd.out];unfold Wc at this;rw[bd.out]at this;exact this) (Ae.size_le (b0.trans aD)),b0.trans (aD.trans cV)⟩
def I6(L:AT)(v:Aw)(W:Aj):Prop:=∃A n c,v=.slice A n c/\n<=c/\Bf W A n L
def Afd(ps:List (Nat×Nat))(v:Aw)(W:Aj):Prop:=∃A n c,v=.slice A n c/\NX W A n ps
def SY(u:List AT)(v:Aw)(W:Aj):Prop:=∃A n c,v=.slice A n c/\Iw W A n u
def I6.ext{L:AT}{v:Aw}{W W':Aj}(h:I6 L v W)(u:Ae W W'):I6 L v W':=let⟨A,n,c,e,E,H⟩:=h;⟨A,n,c,e,E,H.ext u⟩
def Afd.ext{ps:List (Nat×Nat)}{v:Aw}{W W':Aj}(h:Afd ps v W)(u:Ae W W'):Afd ps v W':=let⟨A,n,c,e,E⟩:=h;⟨A,n,c,e,BA.ext E u⟩
def SY.ext{u:List AT}{v:Aw}{W W':Aj}(h:SY u v W)(E:Ae W W'):SY u v W':=let⟨A,n,c,e,H⟩:=h;⟨A,n,c,e,H.ext E⟩
def MJ.row{L:AT}{w w':Aj}{e:Bz}(h:MJ L w e w')(hb:∀xs∈L,xs.length<=1000000/\∀x∈xs,-1000000<=x/\x<=1000000)(U:L.length<=1000000):∃v,e=.returned v/\Ae w w'/\I6 L v w':=by obtain⟨A,n,c,rfl,E,H⟩:=h;obtain⟨A',n',c',e,J,O⟩:=E.aC (λxs u=>⟨by have:=(hb xs u).1;omega,λx T=>by have:=(hb xs u).2 x T;omega⟩) Ad;cases e;exact⟨_,rfl,H,A,n,c,rfl,O,J⟩
def Aia(za:Nat)(L:AT)(v:Aw)(W:Aj):Prop:=∃A n c,v=.slice A n c/\AW W za (.slice A n c) L
def AW.ea{w:Aj}{za g:Nat}{v a b a' b':Aw}{L:AT}{t:TypeId}(h:AW w za v L)(u:Aq w g t #[a',b'])(E:3≠t)(H:86≠t):AW (AdF w g a b) za v L:=(h.cL u E H (IQ w g 0 a)).cL (u.ad 0 a) E H (IQ _ g 1 b)
def Abg(w:Aj)(J O T U:AT)(v1 u E v4:Aw)(V:I6 J v1 w)(Z:I6 O u w)(aa:I6 T E w)(ab:I6 U v4 w)(t:TypeId):Iw (w.alloc (.cells #[v1,u,E,v4] t)) w 4 [J,O,T,U]:=by
 refine⟨rfl,λ_=>⟨_,rfl,λj L H=>?_⟩⟩;have hb:=Aq.new w t #[v1,u,E,v4];have ac:Ae w (w.alloc (.cells #[v1,u,E,v4] t)):=(Ae.refl _).alloc _;have go:∀(k:Nat)(v:Aw)(L:AT),(#[v1,u,E,v4]:Ck)[k]? =some v->I6 L v w->∃A' n' c',(w.alloc (.cells #[v1,u,E,v4] t)).cell? ((w:Addr).add k)=some (.slice A' n' c')/\Bf (w.alloc (.cells #[v1,u,E,v4] t)) A' n' L:=λk v L ad⟨A',n',c',e,_,ae⟩=>by refine⟨A',n',c',?_,ae.ext ac⟩;rw[Of,xv,<-e];have:=cell_of_row (w.alloc (.cells #[v1,u,E,v4] t)) w k #[v1,u,E,v4] t (0,0) (aaf w _);rw[this,ad]
 match j with
 |0=>simp at H;subst H;exact go 0 v1 _ rfl V
 |1=>simp at H;subst H;exact go 1 u _ rfl Z
 |2=>simp at H;subst H;exact go 2 E _ rfl aa
 |3=>simp at H;subst H;exact go 3 v4 _ rfl ab
 |j+4=>simp at H
def Ahf(S K zj:Int)(zc:List Ba)(l:List AZ)(w:Aj)(e:Bz)(w':Aj):Prop:=∃(v:Aw)(u:Int),e=.returned (.tuple #[v,u])/\Ae w w'/\(u=0↔H7 S K zj zc/\EV l)/\(∃(a:Int)(A:AD)(n c:Nat),v=.agg #[a,.slice A n c]/\n<=c/\(H7 S K zj zc/\EV l->a=BJ l.length S.toNat/\Bf w' A n (DM zc l S.toNat zj.toNat)/\∃b,AW w' b (.slice A n c) (DM zc l S.toNat zj.toNat)))
def Aap{zc:List Ba}{l:List AZ}{S zj:Nat}(E:l.length<=4)(H:S<=32)(hi:zj<S)(J:∀r∈zc,0<=r.ax/\r.ax<S):∀xs∈DM zc l S zj,xs.length<=1000000/\∀x∈xs,-1000000<=x/\x<=1000000:=λxs O=>by have u:=Kv (S:=S) hi J xs O;have U:=FE E H;exact⟨by have:=u.2;omega,λx T=>by have:=u.1.aN x T;omega⟩
def PR(S K zj:Int)(A:AD)(n c:Nat)(zc:List Ba)(B:AD)(m d:Nat)(l:List AZ)(w:Aj)(h:Bi w A n zc)(aC:Bx w B m l)(aT:n<=1000000000)(Z:m<=4)(bk:Bj S)(bn:Bj K)(br:∀x∈l,Bj x.st/\Bj x.an/\Bj x.aD):AC 6 #[.agg #[S,K,zj,.slice A n c],.slice B m d] w (Ahf S K zj zc l w):=by
 have u:Ae w ((w.alloc (.cells #[S,K,zj,.slice A n c] 24)).alloc (.cells #[(),AI] 34)):=((Ae.refl _).alloc _).alloc _;have ak:=(Aq.new w 24 #[S,K,zj,.slice A n c]).alloc (.cells #[(),AI] 34);have aD:=Aq.new (w.alloc (.cells #[S,K,zj,.slice A n c] 24)) 34 #[(),AI];rw[z3]at aD;generalize bt:(w.alloc (.cells #[S,K,zj,.slice A n c] 24)).alloc (.cells #[(),AI] 34)=aU at *;have bu:=ak.cell 0;have aE:=ak.cell 1;have aF:=ak.cell 2;have aa:=ak.cell 3;have aV:=h.ext u;have aG:=aC.ext u;have aW:=u;have bw:=ak;have bx:=aD;have al:=zk aC.len;clear h aC u ak aD;go_enter func6,ntmps6;go_wp2_with fail
 refine(UP S K zj A n c zc B m d l aU aV aG aT Z bk bn br).mono ?_;rintro e ay⟨v1,aH,rfl,aX,⟨aI,aJ,rfl,aY⟩,aZ⟩;have a1:Ae ay (ay.alloc (.cells #[aI,aJ] 67)):=(Ae.refl _).alloc _;have ab:=Aq.new ay 67 #[aI,aJ];generalize b8:ay.alloc (.cells #[aI,aJ] 67)=ac at *;have am:=aZ.trans a1;have a5:=ab;have U:=bx.ext am;have aK:=zk aX;have bz:=zk aY;clear aZ a1 aX aY bt bu aE aF aa;by_cases az:aH=0
 . subst az;obtain⟨ad,ae⟩:=aK.1 rfl;obtain⟨H,rfl⟩:∃H:Nat,S=(H:Int):=⟨S.toNat,by have:=ad.1;omega⟩;obtain⟨O,rfl⟩:∃O:Nat,zj=(O:Int):=⟨zj.toNat,by have:=ad.2.2.1;omega⟩;obtain⟨rfl,rfl⟩:=bz ⟨ad,ae⟩;have aL:(Dt aU H K O A n zc B m l):=⟨aV,aG,aT,Z,ad,ae⟩;have bA:(H7 (H:Int) K (O:Int) zc/\EV l):=⟨ad,ae⟩;have an:=aL.bc;have a6:O<H:=by have:=ad.2.2.1;omega
   have af:=Aap (l:=l) (by have:=al.out;omega) an.2 a6 aL.ax;have ao:=KD (zc:=zc) (l:=l) (S:=H) (zj:=O) (by have:=al.out;omega) an.2;have bB:(∀p∈Cc l,p.1<m/\p.2<m):=λp bC=>by have:=G8.1 bC;have:=al.out;omega
   obtain⟨E,aA⟩:∃E,E=DM zc l H O:=⟨_,rfl⟩;have ag:E=Fj m++Gk m (Cc l)++Fl m H O++FL zc l H:=by rw[aA];unfold DM;rw[al.out]
   rw[<-aA]at af ao;have a7:∀xs∈Fj m,_:=λxs u=>af xs (by rw[ag];simp[u]);have a8:∀xs∈Gk m (Cc l),_:=λxs u=>af xs (by rw[ag];simp[u]);have a9:∀xs∈Fl m H O,_:=λxs u=>af xs (by rw[ag];simp[u]);have ba:∀xs∈FL zc l H,_:=λxs u=>af xs (by rw[ag];simp[u]);have aq:(Fj m).length<=10000/\(Gk m (Cc l)).length<=10000/\(Fl m H O).length<=10000/\(FL zc l H).length<=10000:=by rw[ag]at ao;simp only[zu]at ao;omega
   have bD:=zk aA;have bE:=zk ag;have bc:=af;have bF:=ao;have aB:=bw.ext am;have aM:=λW(J:Ae ac W)=>J.cell (ab.cell 0);have au:=λW(J:Ae ac W)=>J.cell (ab.cell 1);have bG:=λW(J:Ae ac W)=>J.cell (aB.cell 0);have bH:=λW(J:Ae ac W)=>J.cell (aB.cell 1);have bI:=λW(J:Ae ac W)=>J.cell (aB.cell 2);have bJ:=λW(J:Ae ac W)=>J.cell (aB.cell 3);clear ad ae af ao aA ag ab;go_wp2;refine Ct [(20,I6 (Fj m)),(23,Afd (Cc l)),(24,I6 (Gk m (Cc l))),(28,I6 (Fl m H O)),(31,I6 (FL zc l H)),(32,SY [Fj m,Gk m (Cc l),Fl m H O,FL zc l H]),(33,Aia ac E)] (n:=15) AJ rfl rfl (.cons (λ_ _ _ h u=>h.ext u) (.cons (λ_ _ _ h u=>h.ext u) (.cons (λ_ _ _ h u=>h.ext u) (.cons (λ_ _ _ h u=>h.ext u) (.cons (λ_ _ _ h u=>h.ext u) (.cons (λ_ _ _ h u=>h.ext u) (.cons (λ_ _ _ h u=>let⟨A,n,c,e,ah⟩:=h;⟨A,n,c,e,ah.ext u⟩) .nil))))))) ?_;simp only[List.take_succ_cons,List.take_zero];(repeat apply Ep rfl rfl (λW J=>Am) Am);refine Di 20 _ (by rfl) rfl rfl (by rfl) (λW σ J T=>?_) Am ?_;simp only[AQ];exact .inr ⟨_,_,by go_simp,(Vn m H W Z an).mono λe w' V=>V.row a7 (by have:=aq;omega)⟩;(repeat apply Ep rfl rfl (λW J=>Am) Am);refine Di 23 _ (by rfl) rfl rfl (by rfl) (λW σ J T=>?_) Am ?_;simp only[AQ];exact .inr ⟨_,_,by go_simp,(Nd B m d l W (aG.ext (am.trans J)) (by have:=Z;omega)).mono λe w'⟨A',k,c',ah,aj,aN⟩=>⟨_,ah,aN,A',k,c',rfl,aj⟩⟩;refine Di 24 _ (by rfl) rfl rfl (by rfl) (λW σ J T=>?_) Am ?_;obtain⟨A',aO,c',ah,aj⟩:=T 23 _ rfl AJ;simp only[AQ,ah];exact .inr ⟨_,_,by go_simp,(VF m H aO c' A' (Cc l) W Z an aj (by have aN:=aj.1;rw[BZ Ig]at aN;have b9:=Nt (l:=l) (by have:=al.out;have:=Z;omega);omega) bB).mono λe w' V=>V.row a8 (by have:=aq;omega)⟩;(repeat apply Ep rfl rfl (λW J=>Am) Am);refine Di 28 _ (by rfl) rfl rfl (by rfl) (λW σ J T=>?_) Am ?_;simp only[AQ];exact .inr ⟨_,_,by go_simp,(Vx m H O W Z an a6).mono λe w' V=>V.row a9 (by have:=aq;omega)⟩;(repeat apply Ep rfl rfl (λW J=>Am) Am);refine Di 31 _ (by rfl) rfl rfl (by rfl) (λW σ J T=>?_) Am ?_;simp only[AQ];exact .inr ⟨_,_,by go_simp,(Vp H K O A n c zc B m d l W (aL.ext (am.trans J))).mono λe w' V=>V.row ba (by have:=aq;omega)⟩;refine Di 32 _ (by rfl) rfl rfl (by rfl) (λW σ J T=>?_) Am ?_;obtain⟨bK,bL,aE,au,bM,bN⟩:=T 20 _ rfl AJ;obtain⟨bO,bP,aF,aP,bQ,bR⟩:=T 24 _ rfl AJ;obtain⟨av,aw,aa,bS,bT,bU⟩:=T 28 _ rfl AJ;obtain⟨bd,be,bf,ax,bV,bW⟩:=T 31 _ rfl AJ;simp only[AQ,au,aP,bS,ax];exact .inl ⟨.slice W 4 4,_,by go_simp,by grind,_,_,_,rfl,Abg W _ _ _ _ _ _ _ _ ⟨bK,bL,aE,rfl,bM,bN⟩ ⟨bO,bP,aF,rfl,bQ,bR⟩ ⟨av,aw,aa,rfl,bT,bU⟩ ⟨bd,be,bf,rfl,bV,bW⟩ 32⟩;refine Di 33 _ (by rfl) rfl rfl (by rfl) (λW σ J T=>?_) Am ?_;obtain⟨A',aO,c',ah,aj⟩:=T 32 _ rfl AJ;simp only[AQ,ah];exact .inr ⟨_,_,by go_simp,(AcH A' aO c' _ W aj (by have:=aj.1;simp at this;omega) (λL ae=>by
    have cc:=aq;simp only[xl,adf,or_false]at ae;rcases ae with rfl|rfl|rfl|rfl;exact⟨Ad,λxs u=>(a7 xs u).1⟩;exact⟨Ad,λxs u=>(a8 xs u).1⟩;exact⟨Ad,λxs u=>(a9 xs u).1⟩;exact⟨Ad,λxs u=>(ba xs u).1⟩)).mono λe w' V=>by
    have ax:[Fj m,Gk m (Cc l),Fl m H O,FL zc l H].flatten=E:=by rw[bE.out];simp
    rw[ax]at V;obtain⟨bX,bY,bZ,b0,b1,b2⟩:=V;exact⟨_,b0,b2,bX,bY,bZ,rfl,b1.less J.size⟩⟩
   refine AN λW σ aQ T=>?_;obtain⟨av,aw,aa,bh,b3⟩:=T 33 _ rfl;simp only[AQ,bh];have aM:=aQ.cell (a5.cell 0);have au:=aQ.cell (a5.cell 1);clear T bh bG bH bI bJ;go_wp2_with fail
   refine(LZ m H W Z an).mono ?_;rintro e ce⟨rfl,aR⟩;have bi:=aQ.trans aR;have U:=U.ext bi;have aS:=zk U;have d0:=U.cell 0;have d1:=U.cell 1;have f0:=U.frozen 0;have f1:=U.frozen 1;have bj:=zk (b3.ext aR);clear aR aM au;go_wp2;try rw[x8]
   refine yw (CS rfl _ _ (w+1) 34 #[((BJ m H:Nat):Int),.slice av aw aa] (0,0) _ rfl (Jh aS) underlying34 rfl AJ) rfl ?_;obtain⟨bd,be,bf,ax,b4,b5⟩:=(AW.ea (a:=((BJ m H:Nat):Int)) (b:=.slice av aw aa) bj aS Ax Ax).aC (λxs u=>⟨by have:=(bc xs u).1;omega,λx b6=>by have:=(bc xs u).2 x b6;omega⟩) (by have:=bF;omega);cases ax;refine⟨_,0,rfl,I8 (aW.trans (am.trans bi)) Ad _ _,⟨λ_=>bA,λ_=>rfl⟩,_,_,_,_,rfl,b5,λ_=>⟨?_,?_⟩⟩;rw[al.out];rfl;have aP:DM zc l (H:Int).toNat (O:Int).toNat=E:=by rw[bD.out];rfl
   rw[aP];exact⟨b4,_,AW.ea (a:=((BJ m H:Nat):Int)) (b:=.slice av aw aa) bj aS Ax Ax⟩
 have cf:(aH !=0)=true:=by simpa using az
 have b7:=zk az;have aM:=ab.cell 0;have au:=ab.cell 1;have d0:=U.cell 0;have d1:=U.cell 1;have f0:=U.frozen 0;have f1:=U.frozen 1;clear az ab;go_wp2;try rw[x8]
 refine yw (CS rfl _ _ (w+1) 34 #[(),AI] (0,0) _ rfl (Jh U) underlying34 rfl AJ) rfl ?_;exact⟨_,aH,rfl,I8 (aW.trans am) Ad _ _,aK,_,_,_,_,rfl,zs _,λh=>absurd (aK.2 h) b7⟩
def Acp(S:Nat)(K zj:Int)(A:AD)(n c:Nat)(zc:List Ba)(B:AD)(m d:Nat)(l:List AZ)(w:Aj)(h:Dt w S K zj A n zc B m l):AC 32 #[.agg #[S,K,zj,.slice A n c],.slice B m d] w λe w'=>e=.returned ()/\Ae w w':=by
 have aq:=h.bc;have au:=h.dn;have O:Ae w (w.alloc (.cells #[S,K,zj,.slice A n c] 24)):=(Ae.refl _).alloc _;have hb:=Aq.new w 24 #[S,K,zj,.slice A n c];generalize af:w.alloc (.cells #[S,K,zj,.slice A n c] 24)=ag at *;have T:=hb.cell 0;have U:=hb.cell 1;have V:=hb.cell 2;have Z:=hb.cell 3;have H:=h.ext O;have ah:=O;have J:=hb;have aj:=h.hm;have d5:decide ((64:Int)<(m:Int))=false:=zn Ad;clear h O hb;go_enter func32,ntmps32;go_wp2_with fail
 refine(Fq S K zj A n c zc ag H.cb H.ca Ad Ad).mono ?_;rintro e ak⟨av,al,rfl,E,aa⟩;obtain rfl:al=0:=E.2 H.b6;clear E af;go_wp2_with fail
 refine(Iz B m d l ak (H.bG.ext aa) Ad H.b9.aN).mono ?_;rintro e w2⟨aw,am,rfl,E,ab⟩;obtain rfl:am=0:=E.2 H.b9;have u:=aa.trans ab;have T:=u.cell (J.cell 0);have U:=u.cell (J.cell 1);have V:=u.cell (J.cell 2);have Z:=u.cell (J.cell 3);clear ab E;go_wp2_with fail
 refine(KF S K zj A n c zc B m d l w2 (H.ext u)).mono ?_;rintro e an⟨rfl,ac⟩;have ad:=u.trans ac;clear ac T U V Z;go_wp2_with fail
 refine(UT S B m d l an (H.bG.ext ad) aj H.bc H.b9).mono ?_;rintro e ax⟨rfl,ae⟩;have ao:=ad.trans ae;clear ae;go_wp2;go_ret;exact⟨rfl,ah.trans ao⟩
def AhL(n S i:Nat)(w:Aj)(J:n<=4)(O:1<=S/\S<=32)(hi:i<n):AC 39 #[.agg #[n,S],i] w λe w'=>e=.returned (Er n i)/\Ae w w':=by
 have E:Ae w (w.alloc (.cells #[n,S] 67)):=(Ae.refl _).alloc _;have hb:=Aq.new w 67 #[n,S];generalize T:w.alloc (.cells #[n,S] 67)=U at *;have V:=hb.cell 0;have Z:=hb.cell 1;have u:=I5 n S 2 i 0 U J O ⟨Ax,Ax⟩ (by unfold Cj;simp;omega) (by unfold Cj;simp);rw[UY]at u;have aa:=u;have ab:=E;clear u E hb;go_enter func39,ntmps39;go_wp2_with fail
 refine aa.mono ?_;rintro e ad⟨rfl,H⟩;have ac:=ab.trans H;clear H V Z T;go_wp2;go_ret;exact⟨rfl,ac⟩
def Agg{xs:An}{i:Nat}{x:Int}(E:xs.Nodup)(h:xs[i]? =some x):Ks xs x=(i:Int):=by
 have u:=zl.1 h;have H:xs.findIdx? (· ==x)=some i:=by
  rw[yq];refine⟨u.1,by simp[u.2],λj J=>?_⟩;have U:j<xs.length:=ac3 J u.1;have O:xs[j]≠x:=λe=>by have T:xs[j]=xs[i]'u.1:=e.trans u.2.symm;have:=(xz E).1 T;omega
  simpa using O
 unfold Ks;rw[H]
def R4(D:AD)(k e:Nat)(xs:An)(x:Int)(g:Nat)(w:Aj)(u:w.cell? g=some (.slice D k e))(h:AB w D k xs):AC 173 #[x,.pointer g] w λe w'=>e=.returned (Ks xs x)/\Ae w w':=by
 have H:=AeY D k e xs x w h;clear h;go_enter func173,ntmps173;go_wp2_with fail
 refine H.mono ?_;rintro e E⟨rfl,rfl⟩;go_wp2;go_ret;exact⟨rfl,Ae.refl _⟩
def VO(D:AD)(k e:Nat)(xs:An)(B:AD)(m d:Nat)(ps:List (Nat×Nat))(w:Aj)(h:AB w D k xs)(ac:NX w B m ps)(aB:m<=1000)(ah:∀p∈ps,∃i j:Nat,i<j/\Ks xs (p.1:Int)=i/\Ks xs (p.2:Int)=j):AC 98 #[.slice D k e,.slice B m d] w λe w'=>∃a:Int,e=.returned (.tuple #[a,true])/\Ae w w':=by
 have O:Ae w (w.alloc (.cells #[.slice D k e] 86)):=(Ae.refl _).alloc _;have hb:=Aq.new w 86 #[.slice D k e];generalize aj:w.alloc (.cells #[.slice D k e] 86)=ak at *;have H:=h.ext O;have al:=BA.ext ac O;have am:=O;have ad:=hb;clear h ac O hb;go_enter func98,ntmps98;go_wp2;clear aj;go_loopw[14](λi wr=>∃j:Nat,i=j/\j<=m/\Ae ak wr)(λi _=>m-(intOf i).toNat);case atStart=>exact⟨0,rfl,zx _,Ae.refl _⟩
 case round=>
  obtain⟨j,rfl,aC,E⟩:=hrel;by_cases an:j<m;obtain⟨aD,T,U,rfl,ae,ao,aq⟩:=NX.at_ (BA.ext al E) an;obtain⟨au,av,aE,Z,aa⟩:=ah _ (zm ae);dsimp only at Z aa;have aF:(j:Int)<(m:Int):=Ad;have aG:(0:Int)<=(j:Int):=Ad;have d1:decide (av<au)=false:=zn Ad;have J:Ae wr (wr.alloc (.cells #[T,U] 149)):=(Ae.refl wr).alloc _;have ab:=Aq.new wr 149 #[T,U];generalize aw:wr.alloc (.cells #[T,U] 149)=V at *;have ax:=E.trans J;have af:=λW(u:Ae V W)=>R4 D k e xs (T:Int) w W (u.cell (J.cell (E.cell (ad.cell 0)))) (H.ext (E.trans (J.trans u)));have ag:=λW(u:Ae V W)=>R4 D k e xs (U:Int) w W (u.cell (J.cell (E.cell (ad.cell 0)))) (H.ext (E.trans (J.trans u)));rw[Z]at af;rw[aa]at ag;have ay:=λW(u:Ae V W)=>u.cell (ab.cell 0);have az:=λW(u:Ae V W)=>u.cell (ab.cell 1);clear ae J ab Z aa;go_wp2;clear aw ao aq;refine AL AJ ?_;(repeat first|apply Bg rfl (λW u=>Am) Am|apply AS rfl Am);apply Bu (λW u=>af W u) rfl (λW u=>by go_simp) Am;(repeat first|apply Bg rfl (λW u=>Am) Am|apply AS rfl Am);apply Bu (λW u=>ag W u) rfl (λW u=>by go_simp) Am;(repeat first|apply Bg rfl (λW u=>Am) Am|apply AS rfl Am);refine AN λW u=>?_;have aA:=ax.trans u;clear u ay az;go_wp2;go_roundw;case rel=>exact⟨j+1,by go_num,Ad,aA⟩
  case measure=>simp[intOf];omega
  obtain rfl:m=j:=Ad;skip;go_wp2;go_ret2;exact⟨_,rfl,am.trans E⟩
abbrev N0(gf:Nat)(w w':Aj):Prop:=Au (λb=>b=gf) w w'
def Abp(r b:Nat):Nat:=if r<b then r else 0
def Abr(r b:Nat):Nat:=if r<b then 1 else 0
def Oe{r b:Nat}(h:r<b):Abp r b=r/\Abr r b=1:=⟨zq h,zq h⟩
def Mn{r b:Nat}(h:b<=r):Abp r b=0/\Abr r b=0:=⟨zo Ad,zo Ad⟩
def TR{u:List Bool}{z:Int}(E:0<z)(H:z<=(u.length:Int)):∃k:Nat,z-1=(k:Int)/\k<u.length/\u[k]? =some (Gi u z):=by refine⟨(z-1).toNat,Ad,Ad,?_⟩;unfold Gi;rw[yc,zr (show(z-1).toNat<u.length by omega)];rfl
def Aeg(n S a r:Nat)(M:Option Addr)(O c:Nat)(V:List Bool)(ae ao gf:Nat)(w:World)(aq:n<=4)(af:1<=S/\S<=32)(au:a<=n)(aJ:r<S)(H:Bw w M O V)(av:V.length=BJ n S) (aw:∀b,b<S->Gi V (Dd n S a b)=decide (r=b))(ax:w.cell? ⟨ae,0,none⟩=some (.int .i64 (n:Int)))(ay:w.cell? ⟨ae,1,none⟩=some (.int .i64 (S:Int)))(az:w.cell? ⟨ao,0,none⟩=some (.slice M O c))(aK:Aq w gf 4 #[.bool true]):Calls prog 100 #[.int .i64 (a:Int),.pointer (some ⟨ae,0,none⟩),.pointer (some ⟨ao,0,none⟩),.pointer (some ⟨gf,0,none⟩)] w λe w'=>e=.returned (.int .i64 (r:Int))/\Aq w' gf 4 #[.bool true]/\N0 gf w w':=by
 have aA:O=BJ n S:=by have:=H.1;omega
 have aB:=zk aA;have aL:=zk aw;have ag:=zk av;have aM:=zk ax;have aN:=zk ay;have aO:=zk az;have aP:=FE aq af.2;have aW:O<=180:=by omega
 have aX:=af.2;clear aw av ax az aA aP;go_enter func100,ntmps100;go_wp2;clear ay;go_loopw[6,7,11](λaQ aR v wr=>∃b:Nat,v=.int .i64 (b:Int)/\b<=S/\aQ=.int .i64 (Abp r b:Int)/\aR=.int .i64 (Abr r b:Int)/\Ae w wr)(λ_ _ v _=>S-(intOf v).toNat);case atStart=>exact⟨0,rfl,zx _,by rw[(Mn (zx r)).1];rfl,by rw[(Mn (zx r)).2];rfl,Ae.refl _⟩
 case round=>
  obtain⟨b,rfl,hb,rfl,rfl,J⟩:=hrel;by_cases ah:b<S
  . have aY:(b:Int)<(S:Int):=by omega
    have aZ:(0:Int)<=(b:Int):=by omega
    have aC:=λW=>U2 n S a b W aq af au ah;obtain⟨z,Z⟩:∃z,Dd n S a b=z:=⟨_,rfl⟩;have aa:0<z/\z<=(V.length:Int):=by rw[<-Z,ag.out];exact⟨Eo _ _ _ _,(MM au ah).2⟩
    have ab:=aL b ah;rw[Z]at ab aC;obtain⟨i,aj,aD,ac⟩:=TR aa.1 aa.2;rw[ab]at ac;have a1:IntKind.i64.wrap (z-1)=(i:Int):=by rw[z5 _ (by have:=ag.out;have:=aB.out;omega),aj]
    have ak:i<O:=by have:=ag.out;have:=aB.out;omega
    obtain⟨a5,x,rfl,al,T⟩:=(H.ext J).at_ ak;have aS:x=decide (r=b):=by have ad:=al.out;rw[ac]at ad;injection ad with ad;exact ad.symm
    subst aS;have a6:(i:Int)<(O:Int):=by omega
    have a7:(0:Int)<=(i:Int):=by omega
    have aT:=λW(u:Ae wr W)=>u.cell (J.cell aM);have aU:=λW(u:Ae wr W)=>u.cell (J.cell aN);have aV:=λW(u:Ae wr W)=>u.cell (J.cell aO);by_cases am:r=b;focus subst am;have U:decide (r=r)=true:=zt rfl;rw[U]at T;have aE:=λW(u:Ae wr W)=>u.cell T;have E:=Mn (zs r);have aF:=Oe (Nat.lt_succ_self r);rw[E.1,E.2];have aG:=zk aF;clear Z aa ab aj aD ac al ak T U E aF
    rotate_left;focus
     have U:decide (r=b)=false:=zn am;rw[U]at T;have aE:=λW(u:Ae wr W)=>u.cell T;have E:Abp r (b+1)=Abp r b/\Abr r (b+1)=Abr r b:=by by_cases h:r<b;rw[(Oe h).1,(Oe h).2,(Oe (Nat.lt_succ_of_lt h)).1,(Oe (Nat.lt_succ_of_lt h)).2];exact⟨rfl,rfl⟩;rw[(Mn Ad).1,(Mn Ad).2,(Mn (r:=r) (b:=b) Ad).1,(Mn (r:=r) (b:=b) Ad).2];exact⟨rfl,rfl⟩
     have aH:=zk E;clear Z aa ab aj aD ac al ak T U E am
    all_goals go_wp2;refine AL AJ ?_;(repeat first|apply Bg rfl (λW u=>Am) Am|apply AS rfl Am);apply Bu (λW u=>aC W) rfl (λW u=>by go_simp) Am;(repeat first|apply Bg rfl (λW u=>Am) Am|apply AS rfl Am);refine AN λW u=>?_;have aI:=J.trans u;clear u aT aU aV aE;go_wp2
    go_roundw;case rel=>exact⟨b+1,by go_num,Ad,by rw[aH.1],by rw[aH.2],aI⟩
    case measure=>simp[intOf];omega
    go_roundw;case rel=>exact⟨r+1,by go_num,Ad,by rw[aG.1],by rw[aG.2];rfl,aI⟩
    case measure=>simp[intOf];omega
  obtain rfl:S=b:=Ad;have E:=Oe aJ;rw[E.1,E.2];have an:=aK.ext J;have a8:=an.cell 0;have f0:=an.frozen 0;clear E;go_wp2;go_ret;exact⟨rfl,an.ad 0 true,Au.setCell (F:=λb=>b=gf) (Ae.stay J) (p:=gf) (.inl rfl) _⟩
def N0.trans{gf:Nat}{a b c:Aj}(h:N0 gf a b)(k:N0 gf b c):N0 gf a c:=Au.trans h k (λ_ _ u=>u)
def Abc(n g:Nat)(p q o:Addr)(gf:Nat)(f:Nat->Int)(w:Aj)(aw:n<=1000)(T:Aq w gf 4 #[true])(ax:∀(args:Ck)(W:Aj),(callFunc g args).run prog W=.ok (.enter g args) W) (ad:∀(k:Nat)(W:Aj),k<n->N0 gf w W->Aq W gf 4 #[true]->AC g #[k,.pointer (some p),.pointer (some q),.pointer (some o)] W λe w'=>e=.returned (f k)/\Aq w' gf 4 #[true]/\N0 gf W w'):AC 71 #[n,.func (.func g) #[] #[.pointer (some p),.pointer (some q),.pointer (some o)]] w λe w'=>e=.returned (.slice w n n)/\Ay w' w (.slice w n n) ((List.range n).map f)/\Aq w' gf 4 #[true]/\N0 gf w w':=by
 have ae:∀W,(Instr.makeSlice 86 n n).run prog W=.ok (.slice W n n) (W.alloc (.cells (madeCells #[()] n) 3)):=λW=>by obtain⟨af,hi,ag,ah,aj⟩:=info_parts Jr;have:=Ci (P:=prog) 86 3 af _ underlying86 hi ag .i64 .i64 n n (zs _) (by rw[aj];omega) Ad W;rw[ah,abc]at this;exact this
 have U:(gf<w):=T.lt;skip;go_enter func71,ntmps71;go_wp2;have E:Ae w (w.alloc (.cells (madeCells #[()] n) 3)):=by grind
 have ak:Aq (w.alloc (.cells (madeCells #[()] n) 3)) w 3 (Cu f n 0):=by rw[<-IV f];exact Aq.new w _ _
 have al:(N0 gf w (w.alloc (.cells (madeCells #[()] n) 3))):=Ae.stay E;have am:=T.ext E;clear E ae;go_loopw[11](λi wr=>∃k:Nat,i=k/\k<=n/\N0 gf w wr/\Aq wr gf 4 #[true]/\Aq wr w 3 (Cu f n k))(λi _=>n-(intOf i).toNat);case atStart=>exact⟨0,rfl,zx _,al,am,ak⟩
 case round=>
  obtain⟨k,rfl,ay,H,V,Z⟩:=hrel;by_cases aa:k<n;have az:(k:Int)<(n:Int):=Ad;have aA:(0:Int)<=(k:Int):=Ad;have an:=ad k wr aa H V;skip;go_wp2_with fail
  refine an.mono ?_;rintro e w2⟨rfl,ab,J⟩;have u:=Au.J J Z (λe=>by have:=U;have e:w=gf:=e;omega);have ao:=N0.trans H J;have aB:=u.frozen k;have aC:w2.cell? ⟨w,k,none⟩=some ():=by rw[u.cell k];simp[Cu,aa]
  have O:=u.ad k (f k);rw[IC f]at O;have aq:=O;have au:(Aq (w2.setCell ⟨w,k,none⟩ (f k)) gf 4 #[true]):=ab.grown (IQ w2 w k _) (λe=>by have:=U;have e:gf=w:=xg e;omega);clear u O J ab;go_wp2;go_roundw;case rel=>exact⟨k+1,by go_num,Ad,Au.setCell (F:=λb=>b=gf) ao (p:=⟨w,k,none⟩) (.inr (zs _)) _,au,aq⟩
  case measure=>simp[intOf];omega
  obtain rfl:k=n:=Ad;skip;go_wp2;go_ret;have hb:=Z;rw[IG]at hb;have ac:=Gr hb Ca;have av:((List.range k).map f).length=k:=AG;rw[av]at ac;exact⟨rfl,ac,V,H⟩
def Ra(ze:Nat->Nat)(n:Nat):An:=(List.range (n+1)).map λk=>((ze k:Nat):Int)
def WJ(n S:Nat)(A:AD)(E c:Nat)(T:List Bool)(ze:Nat->Nat)(w:Aj)(aa:n<=4)(ab:1<=S/\S<=32)(h:Bw w A E T)(af:T.length=BJ n S) (ag:∀k,k<=n->ze k<S)(ah:∀k,k<=n->∀b,b<S->Gi T (Dd n S k b)=decide (ze k=b)):AC 36 #[.agg #[n,S],.slice A E c] w λe w'=>∃(D:AD)(k c':Nat),e=.returned (.tuple #[.slice D k c',true])/\AB w' D k (Ra ze n)/\Ae w w':=by
 have O:Ae w ((w.alloc (.cells #[n,S] 67)).alloc (.cells #[.slice A E c] 38)):=((Ae.refl _).alloc _).alloc _;have hb:=(Aq.new w 67 #[n,S]).alloc (.cells #[.slice A E c] 38);have U:=Aq.new (w.alloc (.cells #[n,S] 67)) 38 #[.slice A E c];rw[z3]at U;generalize ao:(w.alloc (.cells #[n,S] 67)).alloc (.cells #[.slice A E c] 38)=ac at *;have ad:=λW(u:Ae ac W)=>u.cell (hb.cell 0);have aq:=λW(u:Ae ac W)=>u.cell (hb.cell 1);have au:=λW(u:Ae ac W)=>u.cell (U.cell 0);have aj:E=BJ n S:=by have:=h.1;omega
 have av:=λW=>EL n S W aa ab;have ak:=λW=>LZ n S W aa ab;rw[<-aj]at ak;have H:=h.ext O;have aw:=O;have ae:=hb;have ax:=U;have ay:=zk ah;have az:=zk af;clear h O hb U ah af aj;go_enter func36,ntmps36;go_wp2;refine AL AJ ?_;(repeat first|apply Bg rfl (λW u=>Am) Am|apply AS rfl Am);apply Bu (λW u=>av W) rfl (λW u=>by go_simp) Am;(repeat first|apply Bg rfl (λW u=>Am) Am|apply AS rfl Am);apply Bu (λW u=>ak W) rfl (λW u=>by go_simp) Am;(repeat first|apply Bg rfl (λW u=>Am) Am|apply AS rfl Am);refine AN λW J=>?_;have ad:W.cell? w=some n:=J.cell (ae.cell 0);clear aq au ao;have al:=Aq.new W 4 #[true];have V:Ae W (W.alloc (.cells #[true] 4)):=(Ae.refl _).alloc _;generalize aA:W.alloc (.cells #[true] 4)=wf at *;have aB:wf.cell? w=some n:=V.cell ad;have aC:=Abc (n+1) 100 w ⟨w+1,0,none⟩ W W (λk=>((ze k:Nat):Int)) wf Ad al (λargs W=>by go_simp) (λk W' am aD aE=>by have Z:Ae W W':=Au.ext (Au.ay V aD) (λb e=>aa6 e.symm);exact Aeg n S k (ze k) A E c T w (w+1) W W' aa ab Ad (ag k Ad) (H.ext (J.trans Z)) az (ay k Ad) ((J.trans Z).cell (ae.cell 0)) ((J.trans Z).cell (ae.cell 1)) ((J.trans Z).cell (ax.cell 0)) aE);have aF:=V;clear al V ad;go_wp2_with fail
 refine aC.mono ?_;rintro e aG⟨rfl,aH,an,aI⟩;have aK:aG.cell? W=some true:=an.cell 0;clear an aB aA;go_wp2;go_ret2;obtain⟨D,k,c',e,aJ⟩:=aH.aC Ca (λx O=>by obtain⟨k,am,rfl⟩:=zw.1 O;have:=ag k (by have:=zv.1 am;omega);omega);cases e;exact⟨_,_,_,rfl,aJ,aw.trans (J.trans (Au.ext (Au.ay aF aI) (λb e=>aa6 e.symm)))⟩
def Yu(B:AD)(m d:Nat)(l:List AZ)(D:AD)(c:Nat)(xs:An)(M:AD)(e:Nat)(ad:List Bool)(w:Aj)(H:Bx w B m l)(au:AB w D m xs)(av:Bw w M m ad)(aC:m<=4) (E:∀i,i<m->Bd xs (i:Int)=true)(hb:∀i,i<m->(opAt l i).an≠-1->ad[i]? =some true):AC 171 #[.slice B m d,.slice D m c,.slice M m e] w λe w'=>e=.returned true/\Ae w w':=by
 have aw:=zk E;have ax:=zk hb;clear E hb;go_enter func171,ntmps171;go_wp2;go_loopw[23](λv wr=>∃j:Nat,v=j/\j<=m/\Ae w wr)(λv _=>m-(intOf v).toNat);case atStart=>exact⟨0,rfl,zx _,Ae.refl _⟩
 case round=>
  obtain⟨j,rfl,aD,O⟩:=hrel;by_cases T:j<m
  . obtain⟨aE,Z,aa,ab,u,rs,rfl,ae,af,ag,ah,aj,ak⟩:=(H.ext O).at_ T;have al:=EO ae;have U:=ax j T;rw[al]at U;dsimp only at U;have aF:(j:Int)<(m:Int):=Ad;have aG:(0:Int)<=(j:Int):=Ad;have V:Ae wr (wr.alloc (.cells #[Z,aa,ab,u,rs] 96)):=(Ae.refl wr).alloc _;have am:=Aq.new wr 96 #[Z,aa,ab,u,rs];generalize an:wr.alloc (.cells #[Z,aa,ab,u,rs] 96)=ay at *;have ac:=O.trans V;have ao:=EF D m c xs (j:Int) ay (au.ext (O.trans V));rw[aw j T]at ao;have d3:=am.cell 3;have az:=zk U;clear ae am al U;go_wp2_with fail
    refine ao.mono ?_;rintro e aH⟨rfl,rfl⟩;by_cases J:u=-1
    . have aA:(u !=-1)=false:=by simpa using J
      clear J V;go_wp2;clear an af ag ah aj ak d3;go_roundw;case rel=>exact⟨j+1,by go_num,Ad,ac⟩
      case measure=>simp[intOf];omega
    . have aA:(u !=-1)=true:=by simpa using J
      obtain⟨aI,x,rfl,E,aB⟩:=(av.ext ac).at_ T;have aq:=E.out;rw[az J]at aq;cases aq;clear J E V;go_wp2;clear an af ag ah aj ak d3 aB;go_roundw;case rel=>exact⟨j+1,by go_num,Ad,ac⟩
      case measure=>simp[intOf];omega
  . obtain rfl:m=j:=Ad;skip;go_wp2;go_ret;exact⟨rfl,O⟩
def Agt(w:Aj):AC 263 #[.int .u64 1,.int .u64 0] w λe w'=>e=.returned (.tuple #[.int .u64 0,.int .u64 0])/\w=w':=by go_enter func263,ntmps263;go_wp2;go_ret2;exact⟨rfl,rfl⟩
def AiB(w:Aj):AC 175 #[.int .u64 1,.int .u64 0] w λe w'=>e=.returned (.tuple #[.int .u64 0,.int .u64 0])/\w=w':=by
 go_enter func175,ntmps175;go_wp2_with fail
 refine(Agt w).mono ?_;rintro e w'⟨rfl,rfl⟩;go_wp2;go_ret2;exact⟨rfl,rfl⟩
def AgH(w:Aj):AC 263 #[.int .u64 1,.int .u64 1] w λe w'=>e=.returned (.tuple #[.int .u64 0,.int .u64 1])/\w=w':=by go_enter func263,ntmps263;go_wp2;go_ret2;exact⟨rfl,rfl⟩
def Ain(w:Aj):AC 175 #[.int .u64 1,.int .u64 1] w λe w'=>e=.returned (.tuple #[.int .u64 0,.int .u64 1])/\w=w':=by
 go_enter func175,ntmps175;go_wp2_with fail
 refine(AgH w).mono ?_;rintro e w'⟨rfl,rfl⟩;go_wp2;go_ret2;exact⟨rfl,rfl⟩
def AfR(w:Aj):AC 263 #[.int .u64 1,.int .u64 2] w λe w'=>e=.returned (.tuple #[.int .u64 0,.int .u64 2])/\w=w':=by go_enter func263,ntmps263;go_wp2;go_ret2;exact⟨rfl,rfl⟩
def Aif(w:Aj):AC 175 #[.int .u64 1,.int .u64 2] w λe w'=>e=.returned (.tuple #[.int .u64 0,.int .u64 2])/\w=w':=by
 go_enter func175,ntmps175;go_wp2_with fail
 refine(AfR w).mono ?_;rintro e w'⟨rfl,rfl⟩;go_wp2;go_ret2;exact⟨rfl,rfl⟩
def Agy(w:Aj):AC 263 #[.int .u64 1,.int .u64 3] w λe w'=>e=.returned (.tuple #[.int .u64 0,.int .u64 3])/\w=w':=by go_enter func263,ntmps263;go_wp2;go_ret2;exact⟨rfl,rfl⟩
def AiL(w:Aj):AC 175 #[.int .u64 1,.int .u64 3] w λe w'=>e=.returned (.tuple #[.int .u64 0,.int .u64 3])/\w=w':=by
 go_enter func175,ntmps175;go_wp2_with fail
 refine(Agy w).mono ?_;rintro e w'⟨rfl,rfl⟩;go_wp2;go_ret2;exact⟨rfl,rfl⟩
def AfO(w:Aj):AC 263 #[.int .u64 1,.int .u64 4] w λe w'=>e=.returned (.tuple #[.int .u64 0,.int .u64 4])/\w=w':=by go_enter func263,ntmps263;go_wp2;go_ret2;exact⟨rfl,rfl⟩
def AiF(w:Aj):AC 175 #[.int .u64 1,.int .u64 4] w λe w'=>e=.returned (.tuple #[.int .u64 0,.int .u64 4])/\w=w':=by
 go_enter func175,ntmps175;go_wp2_with fail
 refine(AfO w).mono ?_;rintro e w'⟨rfl,rfl⟩;go_wp2;go_ret2;exact⟨rfl,rfl⟩
def AiJ(n:Nat)(w:Aj)(u:n<=4):AC 175 #[.int .u64 1,.int .u64 (n:Int)] w λe w'=>e=.returned (.tuple #[.int .u64 0,.int .u64 (n:Int)])/\w=w':=by rcases(by omega:n=0\/n=1\/n=2\/n=3\/n=4)with rfl|rfl|rfl|rfl|rfl;exact AiB w;exact Ain w;exact Aif w;exact AiL w;exact AiF w
def FJ(v:Int)(n j:Nat):List Aw:=List.replicate j (.int .i64 v)++List.replicate (n-j) (Value.int .i64 0)
def UA(v:Int){n j:Nat}(h:j<=n):(FJ v n j).length=n:=by unfold FJ;simp;omega
def Wa(v:Int){n j i:Nat}(h:i<j):(FJ v n j)[i]? =some (.int .i64 v):=by unfold FJ;rw[yh (by simpa using h),abn,zq h]
def Aac(v:Int)(n:Nat):(madeCells #[Value.int .i64 0] n).toList=FJ v n 0:=by apply ac9;intro i;unfold FJ madeCells;simp[abn,adv];by_cases h:i<n<;>simp[h]
def Oy(v:Int)(n j m:Nat):splice (FJ v n j) j (List.replicate m v)=FJ v n (j+m):=by
 unfold splice FJ;have u:(List.replicate j (Value.int .i64 v)++List.replicate (n-j) (Value.int .i64 0)).take j=List.replicate j (.int .i64 v):=by rw[ads (by simp),z1 AG]
 have E:(List.replicate j (Value.int .i64 v)++List.replicate (n-j) (Value.int .i64 0)).drop (j+(List.replicate m (Value.int .i64 v)).length)=List.replicate (n-(j+m)) (Value.int .i64 0):=by
  rw[aax,<-List.drop_drop];have:(List.replicate j (Value.int .i64 v)++List.replicate (n-j) (Value.int .i64 0)).drop j=List.replicate (n-j) (Value.int .i64 0):=by rw[List.drop_append_of_le_length AG,abt AG];simp
  rw[this,List.drop_replicate];congr 1;omega
 rw[u,E,<-yy,List.replicate_append_replicate]
def Ua(A:AD)(c:Nat)(v:Int)(n:Nat)(w:Aj)(h:AB w A 1 [v])(av:n<=4):AC 99 #[.slice A 1 c,n] w λe w'=>e=.returned (.slice w n n)/\Aq w' w 3 (FJ v n n).toArray/\Ae w w':=by
 have aL:∀W,(Instr.makeSlice 86 (.int .i64 (n:Int)) (.int .i64 (n:Int))).run prog W=.ok (.slice (some ⟨W.heap.size,0,none⟩) n n) (W.alloc (.cells (madeCells #[.int .i64 0] n) 3)):=λW=>by obtain⟨aw,hi,ax,ay,az⟩:=info_parts Jr;have:=Ci (P:=prog) 86 3 aw _ underlying86 hi ax .i64 .i64 n n (zs _) (by rw[az];omega) Ad W;rw[ay,abc]at this;exact this
 have u1:IntKind.u64.wrap (n:Int)=(n:Int):=by rcases(by omega:n=0\/n=1\/n=2\/n=3\/n=4)with rfl|rfl|rfl|rfl|rfl<;>decide
 have u2:IntKind.i64.wrap (n:Int)=(n:Int):=z5 _ Ad;have d1:decide ((Bh:Int)<(n:Int))=false:=zn Ad;obtain⟨V,aA,Z⟩:=h.2.2.2 Ad;subst aA;have aa:Ae w (w.alloc (.cells (madeCells #[()] n) 3)):=(Ae.refl _).alloc _;have ab:=aa.cell (Z 0 v rfl);have ac:=Aq.new w 3 (madeCells #[()] n);have aB:Hid ((w.alloc (.cells (madeCells #[.int .i64 0] n) 3)).heap[w.heap.size]? =some (.cells (FJ v n 0).toArray 3 (0,0))):=zk (by
  have e:(FJ v n 0).toArray=madeCells #[()] n:=by rw[<-Aac]
  rw[e];exact ac)
 have aC:Nat.min 1 n<=1:=Nat.min_le_left 1 n;have ad:Nat.min 1 n<=n:=Nat.min_le_right 1 n;have ae:0<n->Nat.min 1 n=1:=λh=>Nat.min_eq_left h;have af:=zk ae;obtain⟨q,T⟩:∃q,Nat.min 1 n=q:=⟨_,rfl⟩;rw[T]at aC ad af;have aD:=zk T;clear T ae;have aE:=zk ab;clear ab ac h Z;go_enter func99,ntmps99;go_wp2_with fail
 refine(AiJ n w av).mono ?_;rintro e aM⟨rfl,rfl⟩;go_wp2_with(refine wpList_copy_splice (o:=⟨some 33,_,_,_,_,_⟩) rfl (.tmp 31) (.tmp 32) 86 86 rfl 3 underlying86 AJ w (some V) n n 1 c rfl rfl w 0 (FJ v n 0) 3 aB.out (List.replicate q v) (by rw[aax,aD.out]) (λ_=>⟨rfl,V,rfl,λj u J=>by have ag:=(zl.1 J).1;rw[aax]at ag;have:j=0:=Ad;subst this;rw[abn,zq ag]at J;cases J;simpa[Addr.add]using aE.out⟩) (by rw[UA v (zx _),aax];omega) (by intro u U;rw[ab9 U];rfl) w w aa (zs _) ?_;intro aN aF aG;skip)
 go_loopw[8](λx wr=>∃j:Nat,x=j/\j<=n/\(0<n->0<j)/\Hid (wr.heap[w.heap.size]? =some (.cells (FJ v n j).toArray 3 (0,0)))/\Ae w wr)(λx _=>n-(intOf x).toNat);case atStart=> have E:=aF.out;rw[Oy,xv]at E;exact⟨q,AG,ad,λh=>by have:=af h;omega,zk E,aG⟩
 case round=>
  obtain⟨j,rfl,J,aH,ah,aj⟩:=hrel;by_cases aO:j<n
  . have aP:=aH Ad;have aQ:(j:Int)<(n:Int):=Ad;have aR:(j:Int)<=(n:Int):=Ad;have aS:(0:Int)<=(j:Int):=Ad;have aT:n-j≠0:=Ad;skip;go_wp2;obtain⟨m,H⟩:∃m,Nat.min j (n-j)=m:=⟨_,rfl⟩;have ak:m<=j:=by rw[<-H];exact Nat.min_le_left j (n-j)
    have al:m<=n-j:=by rw[<-H];exact Nat.min_le_right j (n-j)
    have am:0<m:=by rw[<-H];rcases Nat.le_total j (n-j)with h|h;have:Nat.min j (n-j)=j:=Nat.min_eq_left h;omega;have:Nat.min j (n-j)=n-j:=Nat.min_eq_right h;omega
    have aI:=zk H;have an:Hid (wr.drew.heap[w.heap.size]? =some (.cells (FJ v n j).toArray 3 (0,0))):=zk ah;have aJ:Hid (∀i u,(List.replicate m (Value.int .i64 v))[i]? =some u->wr.drew.cell? ((w:Addr).add i)=some u):=zk (λi u hi=>by have ao:=(zl.1 hi).1;rw[aax]at ao;rw[abn,zq ao]at hi;cases hi;rw[Of,xv,cell_of_row wr.drew w i (FJ v n j).toArray 3 (0,0) an,List.getElem?_toArray];exact Wa v Ad);have aU:(n≠j):=Ad;have O:=(⟨ak,al,am⟩:m<=j/\m<=n-j/\0<m);have aV:¬n=j:=Ad;clear H ak al am;have aW:IntKind.i64.wrap ((j:Int)+(m:Int))=(j:Int)+(m:Int):=z5 _ (by have:=O;omega);go_region_law((refine step_copy_splice rfl (.tmp 41) (.tmp 44) 86 86 rfl 3 underlying86 AJ (some ⟨w,j,none⟩) w (n-j) (n-j) j n (by go_simp) rfl w j (FJ v n j) 3 an.out (List.replicate m v) (by rw[aax,aI.out]) (λ_=>⟨rfl,_,rfl,aJ.out⟩) (by rw[UA v Ad,aax];have:=O;omega) (by intro u U;rw[ab9 U];rfl) w w aj.drew (zs _) ?_;intro aX aK aq;skip))
    all_goals
     have E:=aK.out;rw[Oy]at E;have au:j+m<=n:=by have:=O;omega
     have aY:0<m:=O.2.2;go_simp;go_roundw
    case rel=> first
      |exact⟨_,_,_,_,_,_,_,_,_,_,_,_,_,_,⟨j+m,rfl,au,λ_=>Ad,zk E,aq⟩,rfl⟩
      |(refine⟨.int .i64 ((j:Int)+(m:Int)),_,_,_,_,_,_,_,_,_,_,_,_,_,⟨j+m,by go_num,au,λ_=>Ad,zk E,aq⟩,?_⟩;rfl)
    case measure=>simp[intOf];omega
  obtain rfl:n=j:=Ad;skip;go_wp2;go_ret;exact⟨rfl,ah,aj⟩
def Kx(σ:Nat->Nat)(a k:Nat):Int:=match(List.range a).find? (λx=>σ x==k)with|some x=>(x:Int)|none=>-1
def Fc(σ:Nat->Nat)(n a:Nat):Ck:=((List.range n).map λk=>Value.int .i64 (Kx σ a k)).toArray
def Ui{σ:Nat->Nat}{n a:Nat}(hi:∀a b,a<n->b<n->σ a=σ b->a=b)(E:a<n):(List.range a).find? (λx=>σ x==σ a)=none:=by
 rw[y6];intro x u;have u:=zv.1 u;have:σ x≠σ a:=λe=>by have:=hi x a Ad E e;omega
 simpa using this
def RX{σ:Nat->Nat}{n a k:Nat}(hi:∀a b,a<n->b<n->σ a=σ b->a=b)(u:a<n):Kx σ (a+1) k=if σ a=k then(a:Int)else Kx σ a k:=by
 unfold Kx;rw[xi,aci];by_cases h:σ a=k;subst h;rw[Ui hi u,zq rfl];simp;rw[zo h];have:[a].find? (λx=>σ x==k)=none:=by simp[h]
 rw[this,Option.or_none]
def AbY{σ:Nat->Nat}{n a:Nat}(hi:∀a b,a<n->b<n->σ a=σ b->a=b)(u:a<n):Kx σ a (σ a)=-1:=by unfold Kx;rw[Ui hi u]
def AfL(σ:Nat->Nat){n a k:Nat}(u:k<n):(Fc σ n a)[k]? =some (.int .i64 (Kx σ a k)):=by unfold Fc;rw[List.getElem?_toArray,yd,aal u];rfl
def Aed{σ:Nat->Nat}{n a:Nat}(hi:∀a b,a<n->b<n->σ a=σ b->a=b)(u:a<n):(Fc σ n a).setIfInBounds (σ a) a=Fc σ n (a+1):=by
 apply acp;simp[Fc];intro i J E;have H:i<n:=by simpa[Fc]using E
 by_cases e:σ a=i;subst e;simp[Fc,RX hi u];rw[acc (by simpa[Fc]using H) e];simp[Fc,RX hi u,e]
def Aau(σ:Nat->Nat)(n:Nat):(FJ (-1) n n).toArray=Fc σ n 0:=by unfold FJ Fc Kx;congr 1;apply ac9;intro i;simp[abn];by_cases h:i<n<;>simp[h]
def AcX{σ:Nat->Nat}{n k:Nat}(u:∀a,a<n->σ a<n)(hi:∀a b,a<n->b<n->σ a=σ b->a=b)(E:k<n):Kx σ n k=(Ff n σ k:Int):=by
 obtain⟨H,J⟩:=FC u hi E;unfold Kx Ff;cases e:(List.range n).find? (λx=>σ x==k)with
 |some x=>rfl
 |none=> rw[y6]at e;have:=e _ (zv.2 H);rw[J]at this;simp at this
def If(σ:Nat->Nat)(n:Nat):An:=(List.range n).map λk=>((Ff n σ k:Nat):Int)
def AbF{σ:Nat->Nat}{n:Nat}(u:∀a,a<n->σ a<n)(hi:∀a b,a<n->b<n->σ a=σ b->a=b):Fc σ n n=((If σ n).map (Value.int .i64)).toArray:=by unfold Fc If;congr 1;rw[ac5];refine List.map_congr_left λk E=>?_;rw[AcX u hi (zv.1 E)];rfl
def Wf(s k:Nat):Int:=if s<k then(s:Int)else-1
def QK{s k:Nat}(h:s<k):Wf s k=s:=zq h
def Qt{s k:Nat}(h:k<=s):Wf s k=-1:=zo Ad
def Aiu{u:List Bool}{z:Int}(E:0<z)(H:z<=(u.length:Int)):∃k:Nat,z-1=(k:Int)/\k<u.length/\u[k]? =some (Gi u z):=by refine⟨(z-1).toNat,Ad,Ad,?_⟩;unfold Gi;rw[yc,zr (show(z-1).toNat<u.length by omega)];rfl
def Sc(n S:Nat)(A:AD)(U c:Nat)(ad:List Bool)(σ:Nat->Nat)(w:Aj)(V:n<=4)(ae:1<=S/\S<=32)(h:Bw w A U ad)(aG:ad.length=BJ n S) (am:∀a,a<n->σ a<n)(hi:∀a b,a<n->b<n->σ a=σ b->a=b)(aH:∀a,a<n->∀k,k<n->Gi ad (Cx n a k)=decide (σ a=k)):AC 35 #[.agg #[n,S],.slice A U c] w λe w'=>∃(D:AD)(c':Nat),e=.returned (.tuple #[.slice D n c',true])/\AB w' D n (If σ n)/\Ae w w':=by
 have u:Ae w (w.alloc (.cells #[n,S] 67)):=(Ae.refl _).alloc _;have hb:=Aq.new w 67 #[n,S];generalize a6:w.alloc (.cells #[n,S] 67)=af at *;have E:=hb.cell 0;have Z:=hb.cell 1;have an:U=BJ n S:=by have:=h.1;omega
 have aI:=zk an;have H:=h.ext u;have a7:=u;have O:=hb;have ag:=zk hi;have a8:=zk aH;have ao:=zk aG;have a9:=FE V ae.2;have bC:U<=180:=Ad;have aJ:=λW=>LZ n S W V ae;rw[<-an]at aJ;clear h u hb hi aH aG an a9;go_enter func35,ntmps35;go_wp2_with fail
 refine(EL n S af V ae).mono ?_;rintro e ba⟨rfl,aq⟩;have E:=aq.cell (O.cell 0);have Z:=aq.cell (O.cell 1);clear a6;go_wp2_with fail
 refine(aJ ba).mono ?_;rintro e w2⟨rfl,aK⟩;have aL:=aq.trans aK;have aM:=O.ext aL;have ah:Ae w2 (w2.alloc (.cells #[.int .i64 (-1)] 3)):=(Ae.refl _).alloc _;have aN:AB (w2.alloc (.cells #[.int .i64 (-1)] 3)) w2 1 [-1]:=Ka #[.int .i64 (-1)] 3 [-1] 1 rfl rfl Ax AG w2 _ rfl;generalize bc:w2.alloc (.cells #[.int .i64 (-1)] 3)=au at *;have E:=ah.cell (aM.cell 0);have Z:=ah.cell (aM.cell 1);have bd:=aN;have aO:=aL.trans ah;clear aK ah aN;go_wp2_with fail
 refine(Ua _ _ (-1) n au bd V).mono ?_;rintro e bD⟨rfl,av,aP⟩;rw[Aau σ]at av;have be:=av;have aQ:=aO.trans aP;have bf:(af.heap.size<=au.heap.size):=aO.size;have E:=aQ.cell (O.cell 0);clear aP av bc Z;generalize au=g at *;go_wp2;clear E;go_loopw[26](λv wr=>∃a:Nat,v=a/\a<=n/\Aq wr g 3 (Fc σ n a)/\Ae af wr)(λv _=>n-(intOf v).toNat);case atStart=>exact⟨0,rfl,zx _,be,aQ⟩
 case round=>
  obtain⟨a,rfl,bE,aa,J⟩:=hrel;by_cases ab:a<n
  . have bF:(a:Int)<(n:Int):=Ad;have bG:(0:Int)<=(a:Int):=Ad;have E:=J.cell (O.cell 0);obtain⟨s,T⟩:∃s,σ a=s:=⟨_,rfl⟩;have aw:s<n:=by rw[<-T];exact am a ab
    have bh:=zk T;have bi:Hid (Kx σ a s=-1):=zk (by rw[<-T];exact AbY ag ab);have bj:Hid ((Fc σ n a).setIfInBounds s a=Fc σ n (a+1)):=zk (by rw[<-T];exact Aed ag ab);clear T;go_wp2;clear E;go_loopw[8,31](λat_ v wr=>∃k:Nat,v=k/\k<=n/\at_=(Wf s k)/\Aq wr g 3 (if s<k then Fc σ n (a+1)else Fc σ n a)/\Ae af wr)(λ_ v _=>n-(intOf v).toNat);case atStart=>exact⟨0,rfl,zx _,by rw[Qt (zx _)],by simpa using aa,J⟩
    case round=>
     obtain⟨k,rfl,aR,rfl,aa,J⟩:=hrel;have aS:=zk J;by_cases aT:k<n
     . have bH:(k:Int)<(n:Int):=Ad;have bI:(0:Int)<=(k:Int):=Ad;have E:=J.cell (O.cell 0);have Z:=J.cell (O.cell 1);have ax:=I5 n S 1 a k wr V ae ⟨Ax,Ax⟩ (by unfold Cj;simp;omega) (by unfold Cj;simp;omega);rw[JD]at ax;have aU:=zk ax;obtain⟨z,aj⟩:∃z,Cx n a k=z:=⟨_,rfl⟩;have ay:0<z/\z<=(ad.length:Int):=by rw[<-aj,ao.out];exact⟨Dv _ _ _,(Mh (S:=S) ab aT).2⟩
       have az:=a8 a ab k aT;rw[aj]at az;rw[aj]at aU;obtain⟨i,aV,bk,aA⟩:=Aiu ay.1 ay.2;rw[az]at aA;have bJ:IntKind.i64.wrap (z-1)=(i:Int):=by rw[z5 _ (by have:=ao.out;have:=aI.out;omega),aV]
       have aB:i<U:=by have:=ao.out;have:=aI.out;omega
       obtain⟨bK,x,rfl,u,aC⟩:=(H.ext J).at_ aB;have bn:x=decide (s=k):=by have ak:=u.out;rw[aA]at ak;injection ak with ak;rw[<-ak,bh.out]
       subst bn;have bL:=zk aB;have bM:(i:Int)<(U:Int):=Ad;have bN:(0:Int)<=(i:Int):=Ad;have br:=zk aa;clear ax aj ay az aV bk aA u aB;go_wp2_with fail
       refine aU.mono ?_;rintro e bt⟨rfl,al⟩;have aW:=zk (aS.trans al);have aX:=zk (br.ext al);have aC:=al.cell aC;clear al E Z;by_cases aD:s=k;subst aD;have ac:=aX.out;rw[zo Ad]at ac;have bO:bt.cell? ⟨g,s,none⟩=some (.int .i64 (-1)):=by have:=ac.cell s;rw[this,AfL σ aw,bi.out]
       have f0:=ac.frozen s;have aY:Wf s s=-1:=Qt (zs _);rw[aY];have bu:=zk ac;clear ac aY;go_wp2;go_roundw;case rel=> refine⟨s+1,by go_num,Ad,by rw[QK Ad],?_,aW.setCell (p:=⟨g,s,none⟩) bf _⟩;rw[zq Ad,<-bj.out];exact bu.ad s _
       case measure=>simp[intOf];omega
       have aE:decide (s=k)=false:=zn aD;have aZ:Wf s (k+1)=Wf s k:=by by_cases h:s<k;rw[QK h,QK Ad];rw[Qt Ad,Qt Ad]
       have a1:(if s<k+1 then Fc σ n (a+1)else Fc σ n a)=(if s<k then Fc σ n (a+1)else Fc σ n a):=by by_cases h:s<k;rw[zq h,zq Ad];rw[zo h,zo Ad]
       have bw:=zk aZ;have bx:=zk a1;rw[aE]at aC;clear aZ a1 aD aE;go_wp2;go_roundw;case rel=>exact⟨k+1,by go_num,Ad,by rw[bw.out],by rw[bx.out];exact aX,aW⟩
       case measure=>simp[intOf];omega
     . obtain rfl:n=k:=Ad;have aF:=aa;rw[zq aw]at aF;have aE:decide ((s:Int)<0)=false:=zn Ad;rw[QK aw];have bz:=zk aF;clear aF;go_wp2;go_roundw;case rel=>exact⟨a+1,by go_num,Ad,bz,aS⟩
       case measure=>simp[intOf];omega
  . obtain rfl:n=a:=Ad;skip;go_wp2;go_ret2;have a5:=aa;rw[AbF am ag]at a5;have bA:=Gr a5 (by simp[If];omega);obtain⟨D,n',c',e,T,_⟩:=bA.aQ (by simp[If];omega) (λx u=>by obtain⟨k,aR,rfl⟩:=zw.1 u;have:=(FC am ag (zv.1 aR)).1;omega);have bB:(If σ n).length=n:=by simp[If]
    rw[bB]at e;cases e;exact⟨_,_,rfl,T,a7.trans J⟩
def Hy(ze:Nat->Nat)(k:Nat):An:=(List.range (k+1)).map λj=>((ze j:Nat):Int)
def RW(ze:Nat->Nat)(k:Nat):Hy ze (k+1)=Hy ze k++[((ze (k+1):Nat):Int)]:=by unfold Hy;rw[xi (n:=k+1),yo];rfl
def W8(ze:Nat->Nat){k j:Nat}(h:j<=k):(Hy ze k)[j]? =some ((ze j:Nat):Int):=by unfold Hy;rw[yd,aal Ad];rfl
def Aat(t:Int->Bool)(n:Nat):List Bool:=(List.range n).map λa=>t (Er n a)
def Aby(t:Int->Bool){n a:Nat}(h:a<n):(Aat t n)[a]? =some (t (Er n a)):=by unfold Aat;rw[yd,aal h];rfl
def Rf(σ:Nat->Nat){n k:Nat}(h:k<n):(If σ n)[k]? =some ((Ff n σ k:Nat):Int):=by unfold If;rw[yd,aal h];rfl
def AcW{σ:Nat->Nat}{n:Nat}(u:∀a,a<n->σ a<n)(hi:∀a b,a<n->b<n->σ a=σ b->a=b){a:Nat}(E:a<n):Bd (If σ n) (a:Int)=true:=by rw[Jc];refine zw.2 ⟨σ a,zv.2 (u a E),?_⟩;rw[TN u hi E]
def AdN(S T:Nat)(K:Int)(A:AD)(n c:Nat)(zc:List Ba)(B:AD)(m d:Nat)(l:List AZ)(D:AD)(aD:Nat)(M:AD)(aE:Nat)(t:Int->Bool)(σ ze:Nat->Nat)(w:Aj) (h:Dt w S K (T:Int) A n zc B m l)(E:AB w D m (If σ m))(aF:Bw w M m (Aat t m))(U:Ie zc l S T t σ ze):AC 97 #[.agg #[S,K,T,.slice A n c],.slice B m d,.slice D m aD,.slice M m aE] w λe w'=>∃(D:AD)(k c':Nat),e=.returned (.tuple #[.slice D k c',true])/\AB w' D k (Hy ze m)/\Ae w w':=by
 have V:Ae w (w.alloc (.cells #[S,K,T,.slice A n c] 24)):=(Ae.refl _).alloc _;have hb:=Aq.new w 24 #[S,K,T,.slice A n c];generalize aZ:w.alloc (.cells #[S,K,T,.slice A n c] 24)=a1 at *;have a5:=hb.cell 0;have a6:=hb.cell 1;have al:=hb.cell 2;have a7:=hb.cell 3;have aG:=h.len;have H:=h.ext V;have aH:=E.ext V;have aI:=aF.ext V;have a8:=V;have aJ:=hb;have J:=zk aG;have aK:=h.hm;have bH:=h.bc.2;clear h E aF V hb aG;go_enter func97,ntmps97;go_wp2_with fail
 refine(KF S K T A n c zc B m d l a1 H).mono ?_;rintro e a9⟨rfl,ba⟩;clear aZ a5 a6 al a7;go_wp2_with fail
 refine(EL m S a9 aK H.bc).mono ?_;rintro e w2⟨rfl,aL⟩;have af:=ba.trans aL;clear aL;go_wp2_with fail
 refine(Yu B m d l D aD (If σ m) M aE (Aat t m) w2 (H.bG.ext af) (aH.ext af) (aI.ext af) aK (λi hi=>AcW (λa aa=>by have:=J.out;have:=U.lt a Ad;omega) (λa b aa hb=>U.inj a b (by have:=J.out;omega) (by have:=J.out;omega)) hi) (λi hi bc=>by rw[Aby t hi,<-J.out,U.ended i (by have:=J.out;omega) bc])).mono ?_;rintro e Z⟨rfl,aM⟩;have ab:=af.trans aM;have ag:=aJ.ext ab;have al:=ab.cell (aJ.cell 2);have bd:=OU Z (T:Int);have be:Ae Z (Z.alloc (.cells #[T] 3)):=(Ae.refl _).alloc _;have bf:Hid (Hy ze 0=[(T:Int)]):=zk (by unfold Hy;simp[U.ds]);clear aM;go_wp2;clear al;go_loopw[10,33](λv i wr=>∃k:Nat,i=k/\k<=m/\Ay wr Z v (Hy ze k)/\Ae Z wr)(λ_ i _=>m-(intOf i).toNat);case atStart=>exact⟨0,rfl,zx _,by rw[bf.out];exact bd,be⟩
 case round=>
  obtain⟨k,rfl,bI,ad,O⟩:=hrel;obtain⟨bJ,no,co,rfl,ac,bK⟩:=ad.aQ (by unfold Hy;simp;omega) (λx V=>by obtain⟨j,bh,rfl⟩:=zw.1 V;have:=U.cF j (by have:=J.out;have:=zv.1 bh;omega);omega);have bi:no=k+1:=by have:=ac.1;unfold Hy at this;simp at this;omega
  subst bi;have am:=ad;by_cases an:k<m;obtain⟨bL,x,rfl,V,bj,_⟩:=(aH.ext (ab.trans O)).at_ an;have ao:x=((Ff m σ k:Nat):Int):=by have E:=V.out;rw[Rf σ an]at E;injection E with E;exact E.symm
  subst ao;obtain⟨aa,ah⟩:=FC (n:=m) (σ:=σ) (λa aa=>by have:=J.out;have:=U.lt a Ad;omega) (λa b aa hb=>U.inj a b (by have:=J.out;omega) (by have:=J.out;omega)) an;generalize Ff m σ k=a at *;obtain⟨bM,x,bk,aq,u0,_⟩:=ac.at_ (k:=k) Ad;subst bk;have ao:x=((ze k:Nat):Int):=by have E:=aq.out;rw[W8 ze (zs k)]at E;injection E with E;exact E.symm
  subst ao;obtain⟨bN,b,rfl,au,v0⟩:=(aI.ext (ab.trans O)).at_ aa;have aj:b=t (Er m a):=by have E:=au.out;rw[Aby t aa]at E;injection E with E;exact E.symm
  have bO:IntKind.i64.wrap ((k:Int)+1-1)=(k:Int):=by rw[z5 _ Ad];omega
  have bP:(k:Int)+1-1=(k:Int):=Ad;have bQ:(k:Int)<(m:Int):=Ad;have bR:(0:Int)<=(k:Int):=Ad;have bS:(a:Int)<(m:Int):=Ad;have a0:(0:Int)<=(a:Int):=Ad;have bT:(k:Int)<(k:Int)+1:=Ad;have bn:=U.cF (k+1) (by have:=J.out;omega);cases b with
  |true=>
   have ak:=U.move a (by have:=J.out;omega) (by rw[J.out];exact aj.symm);rw[ah]at ak;obtain⟨bU,aN,aO,aP,aQ,rs,rfl,aR,aS,aT,aU,aV,aW⟩:=(H.bG.ext (ab.trans O)).at_ aa;rw[EO aR]at ak;have br:=λW(u:Ae wr W)=>(AgA S K T A n c zc aN aO aP aQ rs ((ze k:Nat):Int) W (H.cb.ext (ab.trans (O.trans u))) H.ca).mono (λe w'(aX:TB zc ⟨aN,aO,aP,aQ,rs⟩ ((ze k:Nat):Int) W e w')=>(show e=.returned (.tuple #[((ze (k+1):Nat):Int),true])/\Ae W w' from by have av:=aX.1;unfold Ih at av;rw[ak]at av;exact⟨av,aX.2⟩));have bt:=λW(u:Ae wr W)=>u.cell (O.cell (ag.cell 0));have bu:=λW(u:Ae wr W)=>u.cell (O.cell (ag.cell 1));have bw:=λW(u:Ae wr W)=>u.cell (O.cell (ag.cell 2));have bx:=λW(u:Ae wr W)=>u.cell (O.cell (ag.cell 3));have bz:=λW(u:Ae wr W)=>u.cell aS;have bA:=λW(u:Ae wr W)=>u.cell aT;have bB:=λW(u:Ae wr W)=>u.cell aU;have bC:=λW(u:Ae wr W)=>u.cell aV;have bD:=λW(u:Ae wr W)=>u.cell aW;clear ad ac V aq au aj aR ak aS aT aU aV aW ah;go_wp2;refine AL AJ ?_;(repeat first|apply Bg rfl (λW u=>Am) Am|apply AS rfl Am);apply Bu (λW u=>br W u) rfl (λW u=>by go_simp) Am;(repeat first|apply Bg rfl (λW u=>Am) Am|apply AS rfl Am);refine AN λW aw=>?_;have aY:=am.ext aw;have ax:=zk (BD W ((ze (k+1):Nat):Int) 3);clear bt bu bw bx bz bA bB bC bD bj u0 v0;go_wp2_with(at_builtin;refine BW _ rfl (.tmp 60) (.tmp 62) rfl Z _ (Hy ze k) rfl (aY.alloc _) _ _ ((ze (k+1):Nat):Int) rfl ax.out (by have:=bn;omega) (by unfold Hy;simp;omega) (by have:=(O.trans aw).size;simp;omega) ?_;intro v6 ay az ae aA;have aB:Hid (Ae Z ay):=Ae.grown ((O.trans aw).alloc _) ae (λk e=>(aY.J k e).1);clear ae aA)
   go_roundw;case rel=>exact⟨k+1,by go_num,Ad,by rw[RW];exact az,aB⟩
   case measure=>simp[intOf];omega
  |false=>
   have aC:=U.stay a (by have:=J.out;omega) (by rw[J.out];exact aj.symm);rw[ah]at aC;have bE:=zk aC;have ax:=zk (BD wr ((ze k:Nat):Int) 3);have bF:=U.cF k (by have:=J.out;omega);clear ad ac V aq au aj ah aC;go_wp2_with(at_builtin;refine BW _ rfl (.tmp 60) (.tmp 62) rfl Z _ (Hy ze k) rfl (am.alloc _) _ _ ((ze k:Nat):Int) rfl ax.out (by have:=bF;omega) (by unfold Hy;simp;omega) (by have:=O.size;simp;omega) ?_;intro v6 ay az ae aA;have aB:Hid (Ae Z ay):=Ae.grown (O.alloc _) ae (λk e=>(am.J k e).1);clear ae aA)
   go_roundw;case rel=>exact⟨k+1,by go_num,Ad,by rw[RW,bE.out];exact az,aB⟩
   case measure=>simp[intOf];omega
  obtain rfl:m=k:=Ad;have bG:=ac;clear ad ac;go_wp2;go_ret2;exact⟨_,_,_,rfl,bG,a8.trans (ab.trans O)⟩
def FZ(f:Nat->Bool)(n k:Nat):Ck:=((List.range n).map λi=>Value.bool (if i<k then f i else false)).toArray
def Zs(f:Nat->Bool)(n:Nat):madeCells #[Value.bool false] n=FZ f n 0:=by apply acp;rw[size_madeCells];simp[FZ];intro i u E;unfold madeCells FZ;simp[adv]
def XY(f:Nat->Bool){n k:Nat}:(FZ f n k).setIfInBounds k (.bool (f k))=FZ f n (k+1):=by
 apply acp;simp[FZ];intro i H E;have hi:i<n:=by simpa[FZ]using E
 by_cases e:k=i;subst e;simp[FZ];rw[acc (by simpa[FZ]using hi) Ad];simp only[FZ,List.getElem_toArray,ade,ady];by_cases u:i<k;rw[zq u,zq Ad];rw[zo u,zo Ad]
def Adv{w:Aj}{g n:Nat}{f:Nat->Bool}(h:Aq w g 4 (FZ f n n))(H:n<=1000):Bw w g n ((List.range n).map f):=by
 refine⟨AG,Ad,λ_=>⟨_,rfl,λj x u=>?_⟩⟩;have E:j<n:=by have:=(zl.1 u).1;simpa using this
 rw[yd,aal E]at u;cases u;rw[Of,xv,h.cell j];unfold FZ;rw[List.getElem?_toArray,yd,aal E];simp[E]
def YM{σ:Nat->Nat}{n:Nat}(u:∀a,a<n->σ a<n)(hi:∀a b,a<n->b<n->σ a=σ b->a=b):(If σ n).Nodup:=GF λa b E hb e=>by have H:=(FC u hi E).2;have J:=(FC u hi hb).2;have e:Ff n σ a=Ff n σ b:=Ad;rw[<-H,<-J,e]
def TJ{σ:Nat->Nat}{n a:Nat}(u:∀a,a<n->σ a<n)(hi:∀a b,a<n->b<n->σ a=σ b->a=b)(E:a<n):Ks (If σ n) (a:Int)=(σ a:Int):=Agg (YM u hi) (by rw[Rf σ (u a E),TN u hi E])
def AdC(S T:Nat)(K:Int)(A:AD)(n c:Nat)(zc:List Ba)(B:AD)(m d:Nat)(l:List AZ)(M:AD)(aa az:Nat)(u:List Bool)(σ ze:Nat->Nat)(w:Aj) (h:Dt w S K (T:Int) A n zc B m l)(J:Bw w M aa u)(aQ:u.length=BJ m S)(ac:Ie zc l S T (Gi u) σ ze):AC 33 #[.agg #[S,K,T,.slice A n c],.slice B m d,.slice M aa az] w λe w'=>e=.returned true/\Ae w w':=by
 have U:Ae w (w.alloc (.cells #[S,K,T,.slice A n c] 24)):=(Ae.refl _).alloc _;have hb:=Aq.new w 24 #[S,K,T,.slice A n c];generalize bA:w.alloc (.cells #[S,K,T,.slice A n c] 24)=bB at *;have aA:=hb.cell 0;have aB:=hb.cell 1;have aC:=hb.cell 2;have aD:=hb.cell 3;have aR:=h.len;have H:=h.ext U;have aE:=J.ext U;have bC:=U;have ak:=hb;have ab:=zk aR;have af:=zk aQ;have ag:=h.hm;have al:=h.bc;have aS:aa=BJ m S:=by have:=J.1;omega
 have bD:=FE ag al.2;have cn:aa<=180:=Ad;have aT:=zk aS;have aF:∀a,a<m->σ a<m:=λa aU=>by have:=ac.lt a Ad;omega
 have aV:∀a b,a<m->b<m->σ a=σ b->a=b:=λa b aU hb=>ac.inj a b Ad Ad;have aG:=zk aV;have bE:=UP S K T A n c zc B m d l bB H.cb H.bG H.ca ag (by unfold Bj;omega) (by have:=H.dn;unfold Bj;omega) H.b9.aN;clear h J U hb aR aQ aS bD aV;go_enter func33,ntmps33;go_wp2_with fail
 refine bE.mono ?_;rintro e am⟨v1,bF,rfl,aW,⟨co,cp,rfl,aX⟩,aY⟩;obtain rfl:bF=0:=aW.2 ⟨H.b6,H.b9⟩;obtain⟨rfl,rfl⟩:=aX ⟨H.b6,H.b9⟩;have aZ:Ae am (am.alloc (.cells #[m,S] 67)):=(Ae.refl _).alloc _;have an:=Aq.new am 67 #[m,S];generalize bG:am.alloc (.cells #[m,S] 67)=bH at *;have ao:=an.cell 0;have aq:=an.cell 1;have a1:=aY.trans aZ;have aH:=an;clear aY aZ an aW aX bA aA aB aC aD;go_wp2_with fail
 refine(Sc m S M aa az u σ bH ag al (aE.ext a1) af aF aG (λa aU k a5=>by have:=ac.place a (by have:=ab.out;omega) k (by have:=ab.out;omega);rwa[ab.out]at this)).mono ?_;rintro e w2⟨D,a6,rfl,bI,ah⟩;have a7:=a1.trans ah;have ao:=ah.cell (aH.cell 0);have aq:=ah.cell (aH.cell 1);have bJ:=aH.ext ah;clear ah bG;go_wp2_with fail
 refine(WJ m S M aa az u ze w2 ag al (aE.ext a7) af (λk a5=>ac.cF k (by have:=ab.out;omega)) (λk a5 b hb=>by have:=ac.state k (by have:=ab.out;omega) b hb;rwa[ab.out]at this)).mono ?_;rintro e V⟨E,bK,cq,rfl,a8,au⟩;have a9:=bI.ext au;have av:=a7.trans au;have ba:=bJ.ext au;have bL:∀W,(Instr.makeSlice 38 m m).run prog W=.ok (.slice W m m) (W.alloc (.cells (madeCells #[false] m) 4)):=λW=>by obtain⟨T,hi,bM,bN,bO⟩:=info_parts YK;have:=Ci (P:=prog) 38 4 T _ underlying38 hi bM .i64 .i64 m m (zs _) (by rw[bO];omega) Ad W;rw[bN,abc]at this;exact this
 have bP:Ae V (V.alloc (.cells (madeCells #[false] m) 4)):=(Ae.refl _).alloc _;have bQ:Aq (V.alloc (.cells (madeCells #[false] m) 4)) V 4 (FZ (λa=>Gi u (Er m a)) m 0):=by rw[<-Zs];exact Aq.new V _ _
 clear au ao aq;go_wp2;clear bL;go_loopw[51](λv wr=>∃j:Nat,v=j/\j<=m/\Aq wr V 4 (FZ (λa=>Gi u (Er m a)) m j)/\Ae V wr)(λv _=>m-(intOf v).toNat);case atStart=>exact⟨0,rfl,zx _,bQ,bP⟩
 case round=>
  obtain⟨j,rfl,bR,bc,O⟩:=hrel;by_cases bd:j<m
  . have cr:(j:Int)<(m:Int):=Ad;have cs:(0:Int)<=(j:Int):=Ad;have ao:=O.cell (ba.cell 0);have aq:=O.cell (ba.cell 1);have aI:=I5 m S 2 j 0 wr ag al ⟨Ax,Ax⟩ (by unfold Cj;simp;omega) (by unfold Cj;simp);rw[UY]at aI;have be:=aI;have bf:=zk (XY (λa=>Gi u (Er m a)) (n:=m) (k:=j));obtain⟨z,aJ⟩:∃z,Er m j=z:=⟨_,rfl⟩;have aK:0<z/\z<=(u.length:Int):=by rw[<-aJ,af.out];exact⟨Ge _ _,(Oa (S:=S) bd).2.2⟩
    obtain⟨i,bh,bS,bi⟩:=TR aK.1 aK.2;rw[aJ]at be bf;have ct:IntKind.i64.wrap (z-1)=(i:Int):=by rw[z5 _ (by have:=af.out;have:=aT.out;omega),bh]
    have bT:i<aa:=by have:=af.out;have:=aT.out;omega
    obtain⟨bU,x,rfl,U,bj⟩:=(aE.ext (av.trans O)).at_ bT;obtain rfl:Gi u z=x:=by have Z:=U.out;rw[bi]at Z;injection Z
    have cu:(i:Int)<(aa:Int):=Ad;have cv:(0:Int)<=(i:Int):=Ad;clear aI aJ aK bh bS bi U;go_wp2_with fail
    refine be.mono ?_;rintro e bV⟨rfl,aw⟩;have ax:=bc.ext aw;have bW:=O.trans aw;have bj:=aw.cell bj;have f0:=ax.frozen j;have aL:bV.cell? ⟨V,j,none⟩=some false:=by rw[ax.cell j];simp[FZ,bd]
    have aM:=ax.ad j (.bool (Gi u z));rw[bf.out]at aM;have bX:=aM;clear ax aM aw ao aq;go_wp2;go_roundw;case rel=>exact⟨j+1,by go_num,Ad,bX,bW.setCell (p:=⟨V,j,none⟩) (zs _) _⟩
    case measure=>simp[intOf];omega
  . obtain rfl:m=j:=Ad;have bY:(Bw wr V m (Aat (Gi u) m)):=Adv bc Ad;have aj:=av.trans O;have aA:=aj.cell (ak.cell 0);have aB:=aj.cell (ak.cell 1);have aC:=aj.cell (ak.cell 2);have aD:=aj.cell (ak.cell 3);skip;go_wp2_with fail
    refine(AdN S T K A n c zc B m d l D a6 _ m (Gi u) σ ze wr (H.ext aj) (a9.ext O) bY ac).mono ?_;rintro e bZ⟨F,b0,cx,rfl,bk,bn⟩;have br:=O.trans bn;clear bn aA aB aC aD;go_wp2_with fail
    refine(Nd B m d l bZ (H.bG.ext (av.trans br)) Ad).mono ?_;rintro e b1⟨P,bt,b2,rfl,bu,aN⟩;have b3:bt<=1000:=by have ad:=bu.1;rw[BZ Ig]at ad;have cy:=Nt (l:=l) (by have:=ab.out;omega);omega
    have aO:=br.trans aN;have b4:=bk.ext aN;clear aN;go_wp2_with fail
    refine(VO D m a6 (If σ m) P bt b2 (Cc l) b1 (a9.ext aO) bu b3 (λp b5=>by
     obtain⟨Z,J,ad⟩:=G8.1 b5;have cz:=ab.out;have b6:p.1≠p.2:=λe=>by rw[e]at ad;have bw:l[p.2]? =some (l[p.2]'J):=zr J;have b7:=H.b9.ok bw;rw[EO bw]at ad;unfold Cw at ad;rw[z4,z8,z8]at ad;rcases b7.2.2.2 with h|h<;>omega
     exact⟨σ p.1,σ p.2,ac.time _ _ Z J b6 ad,TJ aF aG Ad,TJ aF aG Ad⟩)).mono ?_
    rintro e b8⟨cA,rfl,ay⟩;have b9:=zk (aO.trans ay);have cc:=zk (b4.ext ay);have ce:=zk (a8.ext (aO.trans ay));have cf:bK=m+1:=by have:=a8.1;unfold Ra at this;simp at this;omega
    have cg:b0=m+1:=by have:=bk.1;unfold Hy at this;simp at this;omega
    subst cf cg;clear ay;go_wp2;go_loopw[89](λv wr=>∃j:Nat,v=j/\j<=m+1/\Ae b8 wr)(λv _=>m+1-(intOf v).toNat);case atStart=>exact⟨0,rfl,zx _,Ae.refl _⟩
    case round=>
     obtain⟨j,rfl,bR,O⟩:=hrel;have bx:=zk O;by_cases aP:j<m+1;obtain⟨bU,x,rfl,U,aL,_⟩:=(ce.ext O).at_ aP;obtain⟨cB,y,rfl,bz,u0,_⟩:=(cc.ext O).at_ aP;have ch:x=y:=by have Z:=U.out;have J:=bz.out;rw[W8 ze Ad]at J;unfold Ra at Z;rw[yd,aal aP]at Z;injection Z with Z;injection J with J;exact Z.symm.trans J
     subst ch;have cC:(j:Int)<(m:Int)+1:=Ad;have cD:(0:Int)<=(j:Int):=Ad;have ci:=λW(ae:Ae wr W)=>ae.cell aL;have cj:=λW(ae:Ae wr W)=>ae.cell u0;clear U bz aL u0;go_wp2;refine AL AJ ?_;(repeat first|apply Bg rfl (λW ae=>Am) Am|apply AS rfl Am);refine AN λW ae=>?_;have cm:=zk (bx.trans ae);clear ae ci cj;go_wp2;go_roundw;case rel=>exact⟨j+1,by go_num,Ad,cm⟩
     case measure=>simp[intOf];omega
     obtain rfl:j=m+1:=Ad;skip;go_wp2;go_ret;exact⟨rfl,bC.trans (av.trans (b9.trans bx))⟩
def Ael(H J O u T U V E Z aa:Int)(w:Aj):AC 96 #[.agg #[H,J,O,u,T],.agg #[U,V,E,Z,aa]] w λe w'=>e=.returned (.bool (Cw ⟨H,J,O,u,T⟩ ⟨U,V,E,Z,aa⟩))/\Ae w w':=by
 unfold Cw;dsimp only;have af:Ae w ((w.alloc (.cells #[H,J,O,u,T] 96)).alloc (.cells #[U,V,E,Z,aa] 96)):=((Ae.refl _).alloc _).alloc _;have ag:=(Aq.new w 96 #[H,J,O,u,T]).alloc (.cells #[U,V,E,Z,aa] 96);have ab:=Aq.new (w.alloc (.cells #[H,J,O,u,T] 96)) 96 #[U,V,E,Z,aa];rw[z3]at ab;generalize ak:(w.alloc (.cells #[H,J,O,u,T] 96)).alloc (.cells #[U,V,E,Z,aa] 96)=al at *;have am:=ag.cell 3;have d2:=ab.cell 2;have ac:=af;clear af ag ab;by_cases ah:0<=u
 . have ad:=zt ah;rw[ad];by_cases aj:u<E
   . have ae:=zt aj;rw[ae];go_enter func96,ntmps96;go_wp2;go_ret;exact⟨rfl,ac⟩
   . have ae:=zn aj;rw[ae];go_enter func96,ntmps96;go_wp2;go_ret;exact⟨rfl,ac⟩
 have ad:=zn ah;rw[ad];go_enter func96,ntmps96;go_wp2;go_ret;exact⟨rfl,ac⟩
def AhU(S K zj:Int)(A:AD)(n c:Nat)(w:Aj):AC 4 #[.agg #[S,K,zj,.slice A n c]] w λe w'=>e=.returned (.bool (decide (n<=300)))/\Ae w w':=by
 have u:decide ((n:Int)<=300)=decide (n<=300):=by by_cases h:n<=300<;>simp[h]<;>omega
 go_enter func4,ntmps4;go_wp2;go_ret;exact⟨by first|rfl|simp[u],by grind⟩
def WD(S K zj s k:Int)(A:AD)(n c:Nat)(zc:List Ba)(w:Aj)(h:Bi w A n zc)(az:n<=1000000000):AC 94 #[.agg #[S,K,zj,.slice A n c],s,k] w (Ke zc s k w):=by
 have Z:Ae w (w.alloc (.cells #[S,K,zj,.slice A n c] 24)):=(Ae.refl _).alloc _;have hb:=Aq.new w 24 #[S,K,zj,.slice A n c];generalize aA:w.alloc (.cells #[S,K,zj,.slice A n c] 24)=aa at *;have ah:=hb.cell 3;have H:=h.ext Z;have aj:=zk h.len;have af:=Z;clear h Z hb;go_enter func94,ntmps94;go_wp2;go_loop[9](λi=>∃j:Nat,i=j/\j<=n/\∀y∈zc.take j,IS s k y=false)(λi=>n-(intOf i).toNat);case atStart=>exact⟨0,rfl,zx _,AG⟩
 case round=>
  obtain⟨j,rfl,aB,ab⟩:=hrel;have T:=zk ab;by_cases ak:j<n;obtain⟨aC,r,rfl,ac,aD,aE,al,am⟩:=H.at_ ak;have an:=zk ac;have ag:=zk (AM ac);have aF:(j:Int)<(n:Int):=Ad;have aG:(0:Int)<=(j:Int):=Ad;clear ab ac;by_cases J:r.st=s;have U:(r.st==s)=true:=by simpa using J
  by_cases V:r.aq=k;have ad:(r.aq==k)=true:=by simpa using V
  have O:Hid (IS s k r=true):=zk (by unfold IS;rw[U,ad];rfl);clear J V;go_wp2;have ao:=λW(E:Ae aa W)=>E.cell ah;have aq:=λW(E:Ae aa W)=>E.cell al;have au:=λW(E:Ae aa W)=>E.cell am;refine AL AJ ?_;(repeat first|apply Bg rfl (λW E=>Am) Am|apply AS rfl Am);refine AN λW av=>?_;clear ao aq au;go_wp2;go_ret3;have aw:zc.find? (IS s k)=some r:=by rw[abf];have ae:=zl.1 an;refine⟨O,j,ae.1,ae.2,λi hi=>?_⟩;have ax:i<zc.length:=ac3 hi ae.1;have:=T zc[i] (zm (i:=i) (by rw[xa hi,zr ax]));simpa using this
  refine⟨?_,af.trans av⟩;rw[UV aw];rfl;have ad:(r.aq==k)=false:=by simpa using V
  have O:Hid (IS s k r=false):=zk (by unfold IS;rw[U,ad];rfl);clear J V;go_wp2;go_round;case rel=> refine⟨j+1,by go_num,Ad,λy u=>?_⟩;rw[ag.out]at u;rcases zz.1 u with u|u;exact T y u;rw[zy.1 u];exact O
  case measure=>simp[intOf];omega
  have U:(r.st==s)=false:=by simpa using J
  have O:Hid (IS s k r=false):=zk (by unfold IS;rw[U];rfl);clear J;go_wp2;go_round;case rel=> refine⟨j+1,by go_num,Ad,λy u=>?_⟩;rw[ag.out]at u;rcases zz.1 u with u|u;exact T y u;rw[zy.1 u];exact O
  case measure=>simp[intOf];omega
  obtain rfl:n=j:=Ad;clear ab;go_wp2;go_ret3;refine⟨?_,af⟩;have ay:zc.find? (IS s k)=none:=by have:=T.out;rw[z1 (by have:=aj.out;omega)]at this;rw[y6];intro y u;rw[this y u];simp
  rw[UM ay];rfl
def AdO{S K:Int}{zc:List Ba}{j:Nat}{r:Ba}(h:P8 S K zc j)(V:zc[j]? =some r):(0<=r.st/\r.st<S)/\(0<=r.ax/\r.ax<S)/\(0<=r.aq/\r.aq<K)/\(0<=r.aT/\r.aT<=1000000)/\∀p,0<j->zc[j-1]? =some p->p.st<r.st\/(p.st=r.st/\p.aq<r.aq):=by
 obtain⟨⟨E,H⟩,J,T,Z⟩:=h r V;unfold CX at E H J T;simp only[z4,z8]at E H J T;refine⟨E,H,J,Ad,λp aa ab=>?_⟩;have u:=Z p aa ab;unfold JB AaQ at u;have U:∀x y:Int,Lib.compareInt x y<0->x<y:=λx y h=>by unfold Lib.compareInt at h;(repeat' split at h)<;>omega
 have ac:∀x y:Int,Lib.compareInt x y=0->x=y:=λx y h=>by unfold Lib.compareInt at h;(repeat' split at h)<;>omega
 by_cases O:Lib.compareInt p.st r.st=0;rw[zo (by simpa using O)]at u;exact .inr ⟨ac _ _ O,U _ _ u⟩;rw[zq O]at u;exact .inl (U _ _ u)
def Abo(S K zj:Int)(A:AD)(n c:Nat)(zc:List Ba)(w:Aj)(h:Bi w A n zc)(aY:n<=1000000000)(aD:H7 S K zj zc):AC 169 #[.agg #[S,K,zj,.slice A n c]] w λe w'=>e=.returned (.tuple #[n,()])/\Ae w w':=by
 have ab:Ae w (w.alloc (.cells #[S,K,zj,.slice A n c] 24)):=(Ae.refl _).alloc _;have hb:=Aq.new w 24 #[S,K,zj,.slice A n c];generalize aZ:w.alloc (.cells #[S,K,zj,.slice A n c] 24)=aE at *;have aF:=hb.cell 0;have aG:=hb.cell 1;have aH:=hb.cell 2;have ag:=hb.cell 3;obtain⟨aI,aJ,aK,aL⟩:=aD;have ah:decide (S<1)=false:=zn Ad;have aj:decide (32<S)=false:=zn Ad;have ak:decide (K<1)=false:=zn Ad;have al:decide (64<K)=false:=zn Ad;have am:decide (zj<0)=false:=zn Ad;have an:decide (S<=zj)=false:=zn Ad;have H:=h.ext ab;have aM:=zk h.len;have aN:=ab;have Z:=hb;clear h ab hb aI aJ aK;go_enter func169,ntmps169;go_wp2;clear aF aG aH ag ah aj ak al am an;go_loopw[4](λi wr=>∃j:Nat,i=j/\j<=n/\Ae aE wr)(λi _=>n-(intOf i).toNat);case atStart=>exact⟨0,rfl,zx _,Ae.refl _⟩
 case round=>
  obtain⟨j,rfl,a1,aa⟩:=hrel;have ag:=aa.cell (Z.cell 3);by_cases aO:j<n;obtain⟨a5,r,rfl,ao,aP,aQ,aR,aS⟩:=(H.ext aa).at_ aO;obtain⟨E,J,T,rs⟩:=r;obtain⟨aq,au,av,aw,ax⟩:=AdO (aL j (by have:=aM.out;omega)) ao;dsimp only at aP aQ aR aS aq au av aw ax;have ah:decide (E<0)=false:=zn Ad;have aj:decide (S<=E)=false:=zn Ad;have ak:decide (T<0)=false:=zn Ad;have al:decide (S<=T)=false:=zn Ad;have am:decide (J<0)=false:=zn Ad;have an:decide (K<=J)=false:=zn Ad;have a6:decide (rs<0)=false:=zn Ad;have a7:decide (1000000<rs)=false:=zn Ad;have a8:(j:Int)<(n:Int):=Ad;have a9:(0:Int)<=(j:Int):=Ad;have ay:Ae wr (wr.alloc (.cells #[E,J,T,rs] 126)):=(Ae.refl wr).alloc _;have U:=Aq.new wr 126 #[E,J,T,rs];generalize az:wr.alloc (.cells #[E,J,T,rs] 126)=V at *;have d0:=U.cell 0;have d1:=U.cell 1;have d2:=U.cell 2;have d3:=U.cell 3;have O:=aa.trans ay;have ba:=O.cell (Z.cell 0);have bc:=O.cell (Z.cell 1);have aT:=O.cell (Z.cell 3);have aA:=λW(u:Ae V W)=>u.cell d0;have aB:=λW(u:Ae V W)=>u.cell d1;have aC:=λW(u:Ae V W)=>u.cell aT;clear ao aq au av aw ay U;by_cases t0:j=0;have t1:decide (0<j)=false:=zn Ad;clear t0;go_wp2;clear az;refine AL AJ ?_;(repeat first|apply Bg rfl (λW u=>Am) Am|apply AS rfl Am);refine AN λW u=>?_;have ac:=O.trans u;clear u aA aB aC;go_wp2;go_roundw;case rel=>exact⟨j+1,by go_num,Ad,ac⟩
  case measure=>simp[intOf];omega
  . obtain⟨bd,p,aU,ad,u0,u1,u2,u3⟩:=(H.ext O).at_ (k:=j-1) Ad;cases aU;obtain⟨ae,aV,be,bf⟩:=p;have af:=ax _ Ad ad;dsimp only at u0 u1 u2 u3 af;have bh:IntKind.i64.wrap ((j:Int)-1)=((j-1:Nat):Int):=by rw[z5 _ Ad];omega
    have t1:decide (0<j)=true:=zt Ad;have bi:((j-1:Nat):Int)<(n:Int):=Ad;have bj:(0:Int)<=((j-1:Nat):Int):=Ad;have aW:=λW(u:Ae V W)=>u.cell u0;have aX:=λW(u:Ae V W)=>u.cell u1;have t2:decide (E<ae)=false:=zn Ad;by_cases t3:ae=E;focus subst t3;have t4:decide (J<=aV)=false:=zn Ad;clear ad u0 u1 u2 u3 af t0
    rotate_left;focus
     have t4:(ae==E)=false:=by simpa using t3
     clear ad u0 u1 u2 u3 af t0 t3
    all_goals
     go_wp2;clear az;refine AL AJ ?_;(repeat first|apply Bg rfl (λW u=>Am) Am|apply AS rfl Am);refine AN λW u=>?_;have ac:=O.trans u;clear u aA aB aC aW aX;go_wp2;go_roundw;case rel=>exact⟨j+1,by go_num,Ad,ac⟩
     case measure=>simp[intOf];omega
  obtain rfl:n=j:=Ad;skip;go_wp2;go_ret2;exact⟨rfl,aN.trans aa⟩
def Kj(p:Nat×Int):List Aw:=[p.1,p.2]
def O6(p:Nat×Int):(Kj p).length=2:=rfl
def Zy(p:Nat×Int):∀v∈Kj p,v.oneCell'=true:=by intro v u;simp[Kj]at u;rcases u with rfl|rfl<;>rfl
def KI(w:Aj)(A:AD)(m:Nat)(ps:List (Nat×Int)):Prop:=BA w A m 2 (ps.flatMap Kj)
def KI.ext{w w':Aj}{A:AD}{n:Nat}{l:List (Nat×Int)}(h:KI w A n l)(u:Ae w w'):KI w' A n l:=BA.ext h u
def KI.len{w:Aj}{A:AD}{n:Nat}{l:List (Nat×Int)}(h:KI w A n l):l.length=n:=by have:=h.1;rw[BZ O6]at this;omega
def KI.at_{w:World}{A:Option Addr}{n k:Nat}{ps:List (Nat×Int)}(h:KI w A n ps)(Z:k<n):∃E i r,A=some E/\ps[k]? =some (i,r)/\w.cell? (E.add (k*2))=some (.int .i64 (i:Nat))/\w.cell? ⟨(E.add (k*2)).block,(E.add (k*2)).off+1,none⟩=some (.int .i64 r):=by
 obtain⟨E,e,T⟩:=h.2.2 Ad;have aa:=h.len;have H:ps[k]? =some ps[k]:=zr Ad;generalize ps[k]=x at H;obtain⟨i,r⟩:=x;have J:∀j u,(Kj (i,r))[j]? =some u->w.cell? (E.add (k*2+j))=some u:=λj u O=>by
  refine T _ u ?_;have U:j<2:=by have:=(zl.1 O).1;rwa[O6]at this
  rw[D2 O6 H U];exact O
 have V:E.add (k*2+1)=⟨(E.add (k*2)).block,(E.add (k*2)).off+1,none⟩:=by rw[<-abe];generalize E.add (k*2)=b;unfold Addr.add;rw[zo Ax]
 exact⟨E,i,r,e,H,J 0 _ rfl,by rw[<-V];exact J 1 _ rfl⟩
def LS(zc:List Ba)(s k r:Int):Int×Int:=match DT zc s k with
 |some (u,rs)=>if rs=r then(u,0)else(0,40)
 |none=>(0,40)
def Agc(S K zj s k r:Int)(A:AD)(n c:Nat)(zc:List Ba)(w:Aj)(h:Bi w A n zc)(Z:n<=1000000000)(aa:0<=s/\s<S):AC 170 #[.agg #[S,K,zj,.slice A n c],s,k,r] w λe w'=>e=.returned (.tuple #[(LS zc s k r).1,(LS zc s k r).2])/\Ae w w':=by
 have O:Ae w (w.alloc (.cells #[S,K,zj,.slice A n c] 24)):=(Ae.refl _).alloc _;have hb:=Aq.new w 24 #[S,K,zj,.slice A n c];generalize ab:w.alloc (.cells #[S,K,zj,.slice A n c] 24)=ac at *;have ad:=hb.cell 0;have ae:=hb.cell 1;have af:=hb.cell 2;have ag:=hb.cell 3;have d1:decide (s<0)=false:=zn Ad;have d2:decide (S<=s)=false:=zn Ad;have ah:=WD S K zj s k A n c zc ac (h.ext O) Z;have aj:=O;clear h O hb aa;go_enter func170,ntmps170;go_wp2_with fail
 refine ah.mono ?_;rintro e ak⟨rfl,U⟩;have T:=aj.trans U;clear U ab ad ae af ag;cases u:DT zc s k with
 |none=>
  have E:IB zc s k=(0,0,false):=by unfold IB;rw[u]
  have H:Hid (LS zc s k r=(0,40)):=zk (by unfold LS;rw[u]);rw[E];clear u E;go_wp2;go_ret2;exact⟨by rw[H.out];rfl,T⟩
 |some q=>
  obtain⟨V,rs⟩:=q;have E:IB zc s k=(V,rs,true):=by unfold IB;rw[u]
  rw[E];by_cases J:rs=r;subst J;have H:Hid (LS zc s k rs=(V,0)):=zk (by unfold LS;rw[u];simp);clear u E;go_wp2;go_ret2;exact⟨by rw[H.out];rfl,T⟩;have al:(rs !=r)=true:=by simpa using J
  have H:Hid (LS zc s k r=(0,40)):=zk (by unfold LS;rw[u];simp[J]);clear u E J;go_wp2;go_ret2;exact⟨by rw[H.out];rfl,T⟩
def Acx{zc:List Ba}{s k r u:Int}(h:LS zc s k r=(u,0)):DT zc s k=some (u,r):=by
 unfold LS at h;cases E:DT zc s k with
 |none=>rw[E]at h;simp at h
 |some q=> obtain⟨a,b⟩:=q;rw[E]at h;by_cases hb:b=r;simp[hb]at h;rw[h,hb];simp[hb]at h
def AgZ{zc:List Ba}{s k r a b:Int}(h:LS zc s k r=(a,b))(hb:b≠0)(u:Int):DT zc s k≠some (u,r):=λe=>by unfold LS at h;rw[e]at h;simp at h;exact hb h.2.symm
def O7{zc:List Ba}{l:List AZ}{s:Int}{p:List (Nat×Int)}{j:Nat}(h:B0 zc l [] s (p.take j)=none):B0 zc l [] s p=none:=by
 cases e:B0 zc l [] s p with
 |none=>rfl
 |some s'=> rw[<-xt j p]at e;obtain⟨E,u⟩:=Q0 e;rw[h]at u;cases u
def Agz(o:Option Int)(w:Aj)(e:Bz)(w':Aj):Prop:=∃a b u:Int,e=.returned (.tuple #[a,b,u])/\((∀s,o=some s->a=s/\u=0)/\(o=none->u≠0))/\Ae w w'
def RC(S:Nat)(K zj:Int)(A:AD)(n c:Nat)(zc:List Ba)(B:AD)(m d:Nat)(l:List AZ)(J:Int)(D:AD)(k e:Nat)(p:List (Nat×Int))(w:Aj)(h:Dt w S K zj A n zc B m l)(aG:KI w D k p)(bR:k<=1000)(aR:0<=J/\J<S)(bd:∀q∈p,q.1<m):AC 93 #[.agg #[S,K,zj,.slice A n c],.slice B m d,J,.slice D k e] w (Agz (B0 zc l [] J p) w):=by
 have an:Ae w (w.alloc (.cells #[S,K,zj,.slice A n c] 24)):=(Ae.refl _).alloc _;have hb:=Aq.new w 24 #[S,K,zj,.slice A n c];generalize be:w.alloc (.cells #[S,K,zj,.slice A n c] 24)=bf at *;have ao:=hb.cell 0;have aH:=hb.cell 1;have aI:=hb.cell 2;have aJ:=hb.cell 3;have H:=h.ext an;have aS:=aG.ext an;have bh:=zk aG.len;have aq:=an;have aT:=hb;have bS:=h.hm;have bi:=zk h.len;have d1:decide (J<0)=false:=zn Ad;have d2:decide ((S:Int)<=J)=false:=zn Ad;clear h aG an hb;go_enter func93,ntmps93;go_wp2_with fail
 refine(Abo S K zj A n c zc bf H.cb H.ca H.b6).mono ?_;rintro e bj⟨rfl,V⟩;have au:=aT.ext V;have ao:=V.cell (aT.cell 0);clear be aH aI aJ;go_wp2;clear ao d1 d2;go_loopw[2,13](λaU i wr=>∃(j:Nat)(s:Int),j<=k/\aU=s/\i=j/\B0 zc l [] J (p.take j)=some s/\Ae bj wr)(λ_ i _=>k-(intOf i).toNat);case atStart=>exact⟨0,J,zx _,rfl,rfl,by simp[B0],Ae.refl _⟩
 case round=>
  obtain⟨j,s,bT,rfl,rfl,hrun,E⟩:=hrel;have av:=zk hrun;by_cases bk:j<k
  . obtain⟨bU,i,r,rfl,aw,bn,br⟩:=(aS.ext (V.trans E)).at_ bk;have hi:=bd _ (zm aw);dsimp only at hi;have bV:=zk aw;have aV:=zk (AM aw);have bW:(j:Int)<(k:Int):=Ad;have bX:(0:Int)<=(j:Int):=Ad;have bt:decide ((i:Int)<0)=false:=zn Ad;have bu:decide (m<=i)=false:=zn Ad;have aW:Ae wr (wr.alloc (.cells #[i,r] 98)):=(Ae.refl wr).alloc _;have aK:=Aq.new wr 98 #[i,r];generalize bw:wr.alloc (.cells #[i,r] 98)=bx at *;have bz:=aK.cell 0;have O:=zk (E.trans aW);have ax:=zk aK;clear hrun aw aW aK;go_wp2;clear bw bn br bz bt bu;generalize wr=bY at *;go_loopw[8,9,10,15](λ_ _ _ v wr=>∃y:Nat,y<=j/\v=y/\(∀q∈p.take y,q.1≠i)/\Ae bx wr)(λ_ _ _ v _=>j-(intOf v).toNat);case atStart=>exact⟨0,zx _,rfl,AG,Ae.refl _⟩
    case round=>
     obtain⟨y,bZ,rfl,aL,E⟩:=hrel;have aX:=zk aL;have af:=zk E;by_cases b0:y<j
     . obtain⟨b1,ay,bA,bB,aM,u0,u1⟩:=(aS.ext (V.trans (O.trans E))).at_ (k:=y) Ad;cases bB;have bC:=zk aM;have bD:=zk (AM aM);have b2:(y:Int)<(j:Int):=Ad;have b3:(y:Int)<(k:Int):=Ad;have b4:(0:Int)<=(y:Int):=Ad;have bE:=λW(u:Ae wr W)=>u.cell u0;have aa:=λW(u:Ae wr W)=>u.cell (E.cell (ax.cell 0));clear aL aM u0 u1;go_wp2;refine AL AJ ?_;(repeat first|apply Bg rfl (λW u=>Am) Am|apply AS rfl Am);refine AN λW u=>?_;have ab:=zk (af.trans u);clear u bE aa;by_cases ag:ay=i
       . have az:((ay:Int)==(i:Int))=true:=by simp[ag]
         have aN:=zk ag;clear ag;go_wp2;go_ret3;have bF:B0 zc l [] J (p.take (j+1))=none:=by rw[aV.out,IA,av.out];dsimp only;rw[zo];rintro⟨_,bG⟩;refine bG ?_;rw[List.nil_append,zw];exact⟨(ay,bA),zm (i:=y) (by rw[xa Ad];exact bC),aN⟩
         exact⟨_,_,21,rfl,⟨λs U=>(by rw[O7 bF]at U;cases U),λ_=>Ax⟩,aq.trans (V.trans (O.trans ab))⟩
       . have az:((ay:Int)==(i:Int))=false:=Ca;have aN:=zk ag;clear ag;go_wp2;go_roundw;case rel=>
          refine⟨y+1,Ad,by go_num,λq T=>?_,ab⟩;rw[bD.out]at T;rcases zz.1 T with T|T
          . exact aX q T
          . rw[zy.1 T];exact aN
         case measure=>simp[intOf];omega
     . obtain rfl:j=y:=Ad;obtain⟨b5,b6,aA,aU,aB,rs,bH,aY,bI,aZ,bJ,a1,a5⟩:=(H.bG.ext (V.trans (O.trans E))).at_ hi;subst bH;have a6:=EO aY;obtain⟨a7,a8⟩:=NB (S:=S) H.ax aR.1 aR.2 av;have aC:=zk (λW(u:Ae wr W)=>Agc S K zj s aA r A n c zc W (H.cb.ext (V.trans (O.trans (E.trans u)))) H.ca ⟨a7,a8⟩);have Z:Hid (B0 zc l [] J (p.take (j+1))=match DT zc s aA with
        |some (bK,bL)=>if bL=r/\(aB=-1\/rs=r)then some bK else none
        |none=>none):=zk (by rw[aV.out,IA,av.out];dsimp only;rw[zq ⟨by have:=bi.out;omega,λaD=>by rw[List.nil_append,zw]at aD;obtain⟨q,T,e⟩:=aD;exact aX q T e⟩,a6];rfl)
       have b7:(i:Int)<(m:Int):=Ad;have b8:(0:Int)<=(i:Int):=Ad;have ao:=λW(u:Ae wr W)=>u.cell (E.cell (O.cell (au.cell 0)));have aH:=λW(u:Ae wr W)=>u.cell (E.cell (O.cell (au.cell 1)));have aI:=λW(u:Ae wr W)=>u.cell (E.cell (O.cell (au.cell 2)));have aJ:=λW(u:Ae wr W)=>u.cell (E.cell (O.cell (au.cell 3)));have aa:=λW(u:Ae wr W)=>u.cell (E.cell (ax.cell 0));have ad:=λW(u:Ae wr W)=>u.cell (E.cell (ax.cell 1));have bM:=λW(u:Ae wr W)=>u.cell aZ;obtain⟨aE,aO,T⟩:∃a b,LS zc s aA r=(a,b):=⟨_,_,rfl⟩;have aP:=zk T;rw[T]at aC;dsimp only at aC;have bN:=zk a1;have bO:=zk a5;have a9:=zk (ax.ext E);clear aL aY a6 bI aZ bJ a1 a5 T a7 a8;go_wp2;refine AL AJ ?_;(repeat first|apply Bg rfl (λW u=>Am) Am|apply AS rfl Am);apply Bu (λW u=>aC W u) rfl (λW u=>by go_simp) Am;(repeat first|apply Bg rfl (λW u=>Am) Am|apply AS rfl Am);refine AN λW u=>?_;have ab:=zk u;have ah:=u.cell bN;have aj:=u.cell bO;have aa:=u.cell (a9.cell 0);have ad:=u.cell (a9.cell 1);clear u ao aH aI aJ bM;by_cases ak:aO=0
       . subst ak;have ba:=Acx aP;rw[ba]at Z;dsimp only at Z;clear ba aP aC;have ah:=λW'(u:Ae W W')=>u.cell ah;have aj:=λW'(u:Ae W W')=>u.cell aj;have aa:=λW'(u:Ae W W')=>u.cell aa;have ad:=λW'(u:Ae W W')=>u.cell ad;by_cases ae:aB=-1
         . have az:(aB !=-1)=false:=by simpa using ae
           have ac:Hid (B0 zc l [] J (p.take (j+1))=some aE):=zk (by rw[Z.out,zq ⟨rfl,.inl ae⟩]);clear ae Z;go_wp2;refine AL AJ ?_;(repeat first|apply Bg rfl (λW u=>Am) Am|apply AS rfl Am);refine AN λW' al=>?_;have aF:=zk al;clear al ah aj aa ad;go_wp2;go_roundw;case rel=>exact⟨j+1,aE,Ad,rfl,by go_num,ac,O.trans (af.trans (ab.trans aF))⟩
           case measure=>simp[intOf];omega
         . have az:(aB !=-1)=true:=by simpa using ae
           by_cases am:rs=r;focus
            have bP:(rs !=r)=false:=by simpa using am
            have ac:Hid (B0 zc l [] J (p.take (j+1))=some aE):=zk (by rw[Z.out,zq ⟨rfl,.inr am⟩])
           rotate_left;focus
            have bP:(rs !=r)=true:=by simpa using am
            have ac:Hid (B0 zc l [] J p=none):=zk (O7 (j:=j+1) (by rw[Z.out,zo];rintro⟨_,h|h⟩;exact ae h;exact am h))
           all_goals clear ae am Z;go_wp2;refine AL AJ ?_;(repeat first|apply Bg rfl (λW u=>Am) Am|apply AS rfl Am);refine AN λW' al=>?_;have aF:=zk al;clear al ah aj aa ad;go_wp2
           go_ret3;exact⟨_,_,40,rfl,⟨λs U=>(by rw[ac.out]at U;cases U),λ_=>Ax⟩,aq.trans (V.trans (O.trans (af.trans (ab.trans aF))))⟩;go_roundw;case rel=>exact⟨j+1,aE,Ad,rfl,by go_num,ac,O.trans (af.trans (ab.trans aF))⟩
           case measure=>simp[intOf];omega
       have az:(aO !=0)=true:=by simpa using ak
       have bQ:=zk ak;have ac:Hid (B0 zc l [] J p=none):=zk (O7 (j:=j+1) (by
        rw[Z.out];cases aD:DT zc s aA with
        |none=>rfl
        |some q=> obtain⟨a,b⟩:=q;dsimp only;rw[zo];rintro⟨e,_⟩;subst e;exact AgZ aP ak a aD))
       clear ak Z ah aj aa ad;go_wp2;go_ret3;exact⟨_,_,aO,rfl,⟨λs U=>(by rw[ac.out]at U;cases U),λ_=>bQ⟩,aq.trans (V.trans (O.trans (af.trans ab)))⟩
  obtain rfl:k=j:=Ad;clear hrun;go_wp2;go_ret3;have aQ:=av.out;rw[z1 (by have:=bh.out;omega)]at aQ;exact⟨s,_,0,rfl,⟨λs' U=>(by rw[aQ]at U;cases U;exact⟨rfl,rfl⟩),λbc=>(by rw[aQ]at bc;cases bc)⟩,aq.trans (V.trans E)⟩
def AiZ:LF 46 98 (.agg #[(),()]) 2 16:=⟨underlying46,AJ,rfl,Ax,Ax⟩
def En(w:Aj)(b:Nat)(v:Aw)(ps:List (Nat×Int)):Prop:=AP w b 98 2 v ps.length (ps.flatMap Kj)
def En.cT{w:Aj}{b:Nat}{v:Aw}{ps:List (Nat×Int)}(h:En w b v ps)(E:ps.length<=1000):∃A c,v=.slice A ps.length c/\KI w A ps.length ps:=by obtain⟨A,c,e,u,_⟩:=AP.aC h Ad;exact⟨A,c,e,u⟩
def Wy(w:Aj){zf:Array Oper}{rest:List Oper}{o:Oper}{a:Act}{Q:Exit->Act->Aj->Prop}(V:o.guard=none)(s x:Operand) (Z:o.op=.call {callee:=.builtin .append,args:=#[s,x],argTypes:=#[46,46]}) (za:Nat)(v:Aw)(M:List (Nat×Int))(p:Nat×Int)(aa:a.eval s=v)(J:En w za v M)(A:AD)(c:Nat)(ab:a.eval x=.slice A 1 c)(ac:BA w A 1 2 (Kj p))(hb:M.length<=1000000000)(ad:za<=w) (h:∀u E H w',En w' za (.slice u E H) (M++[p])->w.grownBy w' v.ownBlock->(∀k,v.ownBlock=some k->za<=k)->(∀(g:Nat)(t:TypeId)(O:Ck),Aq w g t O->98≠t->Aq w' g t O)->wpList prog zf Q rest (a.put o.dst (.slice u E H)) w'):wpList prog zf Q (o::rest) a w:=by refine D6 AiZ w V s x Z za v M.length (M.flatMap Kj) aa J A 1 c (Kj p) ab ac (Zy p) Ad ad λag w' T U _=>?_;obtain⟨u,E,H,rfl⟩:=AP.form T;refine h u E H w' ?_ U (λk e=>(xy J k e).1) (λg t O hb ae=>hb.grown U (λe=>D3 J hb ae e.symm));unfold En;rw[zu,y4];simpa using T
def Wb(zc:List Ba)(s k:Int):(IB zc s k).2.1=II zc s k:=by
 unfold IB II;cases DT zc s k with
 |none=>rfl
 |some q=>rfl
def Aga(o:Option (List (Nat×Int)))(w:Aj)(e:Bz)(w':Aj):Prop:=∃(A:AD)(n c:Nat)(u:Int),e=.returned (.tuple #[.slice A n c,u])/\((∀p,o=some p->En w' w (.slice A n c) p/\u=0)/\(o=none->u≠0))/\Ae w w'
def DN(o:List Nat):An:=o.map λx:Nat=>(x:Int)
def Agf(S:Nat)(K zj:Int)(A:AD)(n c:Nat)(zc:List Ba)(B:AD)(m d:Nat)(l:List AZ)(D:AD)(k e:Nat)(o:List Nat)(w:Aj)(h:Dt w S K zj A n zc B m l)(an:AB w D k (DN o))(cf:k<=100)(bt:∀q∈o,q<m):AC 30 #[.agg #[S,K,zj,.slice A n c],.slice B m d,.slice D k e] w (Aga (GI zc l zj o) w):=by
 have ad:Ae w (w.alloc (.cells #[S,K,zj,.slice A n c] 24)):=(Ae.refl _).alloc _;have hb:=Aq.new w 24 #[S,K,zj,.slice A n c];generalize bu:w.alloc (.cells #[S,K,zj,.slice A n c] 24)=bw at *;have ae:=hb.cell 0;have af:=hb.cell 1;have ag:=hb.cell 2;have ah:=hb.cell 3;have H:=h.ext ad;have bx:=an.ext ad;have bz:Hid (o.length=k):=zk (by have:=an.1;unfold DN at this;rw[z2]at this;exact this);have ao:=ad;have bA:=hb;have cg:=h.hm;have aL:=zk h.len;have aM:(0<=zj/\zj<S):=h.b6.2.2.1;clear h an ad hb;go_enter func30,ntmps30;go_wp2_with fail
 refine(RC S K zj A n c zc B m d l zj none 0 0 [] bw H ⟨AG,Ad,λh=>absurd h Ad⟩ Ad aM AG).mono ?_;rintro e aj⟨a0,ch,ci,rfl,⟨aN,_⟩,O⟩;obtain⟨rfl,rfl⟩:=aN zj (by simp[B0]);have T:=bA.ext O;clear bu aN ae af ag ah;go_wp2;go_loopw[8,9,12](λv aO i wr=>∃(j:Nat)(s:Int)(p:List (Nat×Int)),j<=k/\aO=s/\i=j/\En wr aj v p/\(GI zc l a0 o=Gg zc l a0 p s (o.drop j)/\B0 zc l [] a0 p=some s/\p.length<=j/\∀q∈p,q.1<m)/\Ae aj wr)(λ_ _ i _=>k-(intOf i).toNat);case atStart=>exact⟨0,a0,[],zx _,rfl,rfl,AP.nil _ _ _ _,⟨rfl,by simp[B0],AG,AG⟩,Ae.refl _⟩
 case round=>
  obtain⟨j,s,p,cj,rfl,rfl,aq,⟨au,hrun,av,bB⟩,J⟩:=hrel;have aw:=zk au;have cm:=zk hrun;have cn:=av;by_cases bC:j<k
  . obtain⟨co,bD,rfl,aP,aQ,_⟩:=(bx.ext (O.trans J)).at_ bC;obtain⟨x,ax,rfl⟩:∃x:Nat,o[j]? =some x/\bD=(x:Int):=by
     have U:=aP.out;unfold DN at U;rw[yd]at U;cases aR:o[j]? with
     |none=>rw[aR]at U;cases U
     |some x=>rw[aR]at U;simp at U;exact⟨x,rfl,U.symm⟩
    have aS:=bt x (zm ax);obtain⟨cp,cq,ac,aO,cr,rs,rfl,aT,bE,aU,bF,bG,bH⟩:=(H.bG.ext (O.trans J)).at_ aS;have ay:=EO aT;have aV:Hid (o.drop j=x::o.drop (j+1)):=zk (by have aW:=(zl.1 ax);rw[y8 aW.1,aW.2]);obtain⟨r,ak⟩:∃r,II zc s ac=r:=⟨_,rfl⟩;have bI:Hid (∀s',B0 zc l [] a0 (p++[(x,r)])=some s'->GI zc l a0 o=Gg zc l a0 (p++[(x,r)]) s' (o.drop (j+1))):=zk (λs' az=>by rw[aw.out,aV.out,Gg,zq (by have:=aL.out;omega),ay];dsimp only;rw[ak,az]);have bJ:Hid (B0 zc l [] a0 (p++[(x,r)])=none->GI zc l a0 o=none):=zk (λaz=>by rw[aw.out,aV.out,Gg,zq (by have:=aL.out;omega),ay];dsimp only;rw[ak,az]);have aX:=zk (λW(V:Ae wr W)=>WD S K a0 s ac A n c zc W (H.cb.ext (O.trans (J.trans V))) H.ca);have aA:Hid ((IB zc s ac).2.1=r):=zk (by rw[Wb,ak]);have cs:(j:Int)<(k:Int):=Ad;have ct:(0:Int)<=(j:Int):=Ad;have cu:(x:Int)<(m:Int):=Ad;have cv:(0:Int)<=(x:Int):=Ad;have aB:Ae wr (wr.alloc (.cells #[x,()] 98)):=(Ae.refl wr).alloc _;have aY:=Aq.new wr 98 #[x,()];have bK:=zk aY;have Z:=zk aB;have bL:=zk aU;have bM:=zk aQ;have bN:=aB.cell aQ;obtain⟨mt,aC⟩:∃mt,IB zc s ac=mt:=⟨_,rfl⟩;obtain⟨bO,u,bP⟩:=mt;rw[aC]at aA;have bQ:=zk (λW(V:Ae wr W)=>(aX.out W V).mono (λe w'(aZ:Ke zc s ac W e w')=>(show e=.returned (.tuple #[bO,u,bP])/\Ae W w' from⟨by have:=aZ.1;rw[aC]at this;exact this,aZ.2⟩)));obtain rfl:u=r:=aA.out;clear au hrun av aP ax aT ay bE aU bF bG bH ak aB aY aC aX aA;go_wp2;clear bN;generalize wr.alloc (.cells #[x,()] 98)=a1 at *;have ae:=Z.out.cell (J.cell (T.cell 0));have af:=Z.out.cell (J.cell (T.cell 1));have ag:=Z.out.cell (J.cell (T.cell 2));have ah:=Z.out.cell (J.cell (T.cell 3));have a5:=Z.out.cell bM.out;have a6:=Z.out.cell bL.out;have aD:Ae wr a1.drew:=Z.out.drew;go_cut[65](λ_ a7=>Aq a7 wr 98 #[x,u]/\Ae wr a7)
    case first=>
     go_region_law((go_simp;go_at_call 94;(refine(bQ.out _ aD).mono ?_);rintro e W⟨rfl,V⟩;have al:=zk (Aq.ext (w:=a1.drew) bK.out V);have bR:=zk (aD.trans V);have cx:=al.out.cell 0;have cy:=al.out.cell 1;have f1:=al.out.frozen 1;clear ae af ag ah a5 a6 V))
     all_goals
      go_wp2_with fail
      go_meet;exact⟨al.out.ad 1 u,bR.out.setCell (p:=⟨wr,1,none⟩) (zs _) _⟩
    case rest=>
    obtain⟨aE,aF⟩:=hcut;generalize wc=aG at *;clear ae af ag ah a5 a6 aD;have cz:=aE.cell 0;have cA:=aE.cell 1;have a8:=zk aF;have bS:=zk (AP.ext aq aF);have a9:=BA.bz aG #[x,u] 98;have bT:Hid (BA (aG.alloc (.cells #[x,u] 98)) aG 1 2 (Kj (x,u))):=zk a9;clear aE aF a9;go_wp2_with(at_builtin;refine Wy _ rfl (.tmp 68) (.tmp 70) rfl aj _ p (x,u) rfl (AP.alloc bS.out _) _ _ rfl bT.out Ad (by have:=(J.trans a8.out).size;simp;omega) ?_;intro bU cB bV ba bc bd be bW;have bf:=zk bc;have ab:Hid (Ae aj ba):=Ae.grown ((J.trans a8.out).alloc _) bd be;have bX:=ab.out.cell (T.cell 0);have bY:=ab.out.cell (T.cell 1);have bZ:=ab.out.cell (T.cell 2);have b0:=ab.out.cell (T.cell 3);clear bc bd be bW)
    obtain⟨cC,cD,b1,am⟩:=En.cT bf.out Ca;cases b1;have bh:∀q∈p++[(x,u)],q.1<m:=λq E=>by rcases zz.1 E with E|E;exact bB q E;rw[zy.1 E];exact aS
    have bi:=zk bh;have b2:=zk am;clear am bh;refine(RC S K a0 A n c zc _ m d l a0 bU _ bV (p++[(x,u)]) ba (H.ext (O.trans ab.out)) b2.out Ca aM bi.out).mono ?_;rintro e cE⟨b3,cF,bj,rfl,⟨aH,aI⟩,aJ⟩;have bk:=zk (ab.out.trans aJ);have b4:=zk (AP.ext bf.out aJ);clear aJ bX bY bZ b0;cases aa:B0 zc l [] a0 (p++[(x,u)])with
    |none=>
     have aK:=aI aa;have cG:(bj !=0)=true:=by simpa using aK
     have b5:=zk aK;have b6:=zk (bJ.out aa);clear aK aa aH aI;go_wp2;go_ret2;exact⟨none,0,0,bj,rfl,⟨λq E=>(by rw[b6.out]at E;cases E),λ_=>b5.out⟩,ao.trans (O.trans bk.out)⟩
    |some s'=>
     obtain⟨rfl,rfl⟩:=aH s' aa;have b7:=zk (bI _ aa);have b8:=zk aa;clear aa aH aI;go_wp2;go_roundw;case rel=>exact⟨j+1,b3,p++[(x,u)],Ad,rfl,by go_num,by have h:=b4.out;unfold En at h⊢;simpa using h,⟨b7.out,b8.out,Ca,bi.out⟩,bk.out⟩
     case measure=>simp[intOf];omega
  obtain rfl:k=j:=Ad;clear au hrun av;go_wp2;go_ret2;obtain⟨b9,cc,ce,_⟩:=En.cT aq Ad;subst ce;have am:=AP.less aq (ao.trans O).size;have bn:GI zc l a0 o=some p:=by rw[aw.out,abt (by have:=bz.out;omega)];rfl
  exact⟨b9,_,cc,0,rfl,⟨λq E=>(by rw[bn]at E;cases E;exact⟨am,rfl⟩),λbr=>(by rw[bn]at br;cases br)⟩,ao.trans (O.trans J)⟩
def En.eA{w:Aj}{b g i:Nat}{v u:Aw}{ps:List (Nat×Int)}{t:TypeId}{E:Ck}(h:En w b v ps)(H:Aq w g t E)(J:98≠t):En (w.setCell ⟨g,i,none⟩ u) b v ps:=aan h (IQ w g i u) (Or.inr (D3 h H J))
structure AiS(wB:Aj)(S i0:Nat)(K:Int)(A:AD)(n c:Nat)(zc:List Ba)(B:AD)(m d:Nat)(l:List AZ)(go_ gr gl:Nat)(ze:Nat->Nat)(E:AD)(kE cE:Nat):Prop where
 dz:Dt wB S K (i0:Int) A n zc B m l
 dF:Aq wB go_ 24 #[S,K,i0,.slice A n c]
 cr:Aq wB gr 86 #[.slice E kE cE]
 dj:Aq wB gl 25 #[.slice B m d]
 ev:AB wB E kE (Ra ze m)
def Aej(U:Aj)(S ag:Nat)(K:Int)(A:AD)(n c:Nat)(zc:List Ba)(B:AD)(m d:Nat)(l:List AZ)(ah aj ak V za k a:Nat)(ze:Nat->Nat)(E:AD)(al aC:Nat)(v:Aw)(p:List (Nat×Int))(w:Aj) (H:AiS U S ag K A n c zc B m d l ah aj ak ze E al aC)(J:Ae U w)(aD:U<=V)(bc:U<=za)(bd:za<=w)(am:Aq w V 46 #[v])(ac:En w za v p)(be:p.length<=10)(bf:k<=m)(aE:a<m):AC 37 #[k,a,.pointer ah,.pointer aj,.pointer ak,.pointer V] w λe w'=>e=.returned (.tuple #[])/\(∃an,Aq w' V 46 #[an]/\En w' za an (p++[(a,II zc ((ze k:Nat):Int) (opAt l a).aq)]))/\Ae U w'/\za<=w':=by
 obtain⟨bh,bi,bj,rfl⟩:=AP.form ac;have aF:al=m+1:=by have:=H.ev.1;unfold Ra at this;simp at this;omega
 subst aF;obtain⟨bk,x,rfl,ao,u0,_⟩:=(H.ev.ext J).at_ (k:=k) Ad;obtain rfl:x=((ze k:Nat):Int):=by have O:=ao.out;unfold Ra at O;rw[yd,aal Ad]at O;injection O with O;exact O.symm
 obtain⟨bn,br,aa,bt,bu,rs,rfl,aq,aG,au,aH,aI,aJ⟩:=(H.dz.bG.ext J).at_ aE;have av:=EO aq;have bw:=H.dz.hm;obtain⟨mt,ad⟩:∃mt,IB zc ((ze k:Nat):Int) aa=mt:=⟨_,rfl⟩;obtain⟨aK,T,aL⟩:=mt;have aw:T=II zc ((ze k:Nat):Int) aa:=by rw[<-Wb,ad]
 have aM:=λW(u:Ae w W)=>(Pb S K ag ((ze k:Nat):Int) aa A n c zc W (H.dz.cb.ext (J.trans u)) H.dz.ca).mono (λe w'(ax:Ke zc ((ze k:Nat):Int) aa W e w')=>(show e=.returned (.tuple #[aK,T,aL])/\Ae W w' from⟨by have:=ax.1;rw[ad]at this;exact this,ax.2⟩));have aN:=λW(u:Ae w W)=>u.cell (J.cell (H.dF.cell 0));have aO:=λW(u:Ae w W)=>u.cell (J.cell (H.dF.cell 1));have aP:=λW(u:Ae w W)=>u.cell (J.cell (H.dF.cell 2));have aQ:=λW(u:Ae w W)=>u.cell (J.cell (H.dF.cell 3));have aR:=λW(u:Ae w W)=>u.cell (J.cell (H.cr.cell 0));have aS:=λW(u:Ae w W)=>u.cell (J.cell (H.dj.cell 0));have aT:=λW(u:Ae w W)=>u.cell u0;have aU:=λW(u:Ae w W)=>u.cell au;have bx:(k:Int)<(m:Int)+1:=Ad;have bz:(0:Int)<=(k:Int):=Ad;have bA:(a:Int)<(m:Int):=Ad;have a0:(0:Int)<=(a:Int):=Ad;have aV:=zk av;have aW:=zk aw;have aX:=am;have aY:=ac;clear H am ac ao aq aG au aH aI aJ u0 av ad aw;go_enter func37,ntmps37;go_wp2;refine AL AJ ?_;(repeat first|apply Bg rfl (λW u=>Am) Am|apply AS rfl Am);apply Bu (λW u=>aM W u) rfl (λW u=>by go_simp) Am;(repeat first|apply Bg rfl (λW u=>Am) Am|apply AS rfl Am);refine AN λW Z=>?_;have ae:=aX.ext Z;have bB:=ae.cell 0;have f0:=ae.frozen 0;have aZ:=AP.ext aY Z;have ay:=BA.bz W #[a,T] 98;have a1:(BA (W.alloc (.cells #[a,T] 98)) W 1 2 (Kj (a,T))):=ay;clear ay aN aO aP aQ aR aS aT aU;go_wp2_with(at_builtin;refine Wy _ rfl (.tmp 26) (.tmp 30) rfl za _ p (a,T) rfl (AP.alloc aZ _) _ _ rfl a1 Ad (by have:=Z.size;simp;omega) ?_;intro a5 a6 a7 az a8 af aA aB;have a9:Hid (Ae U az):=Ae.grown ((J.trans Z).alloc _) af (λk e=>by have:=aA k e;omega);have ab:=aB _ _ _ (ae.alloc (.cells #[a,T] 98)) Ax;have bC:=ab.cell 0;have f6:=ab.frozen 0;have ba:Hid (za<=az):=zk (by have O:=af.size;have bD:=Z.size;rw[z3]at O;omega);clear af aA aB)
 go_end0;refine⟨rfl,⟨.slice a5 a6 a7,ab.ad 0 _,?_⟩,a9.setCell (p:=V) aD _,by rw[xf];exact ba⟩;rw[aV.out];dsimp only;rw[<-aW.out];exact En.eA a8 ab Ax
def YG(w:Aj):En (w.alloc (.cells #[] 98)) w (.slice w 0 0) []:=⟨AG,Or.inr ⟨w,0,#[],rfl,zs _,aaf w _,zs _,Ax,AG,AG⟩⟩
def VS(zc:List Ba)(l:List AZ)(t:Int->Bool)(σ ze:Nat->Nat)(k:Nat):(Da zc l t σ ze k).length<=k:=by unfold Da;have:=List.length_filterMap_le (IZ zc l t σ ze) (List.range k);rwa[y9]at this
def Zf(S T:Nat)(K:Int)(A:AD)(n c:Nat)(zc:List Ba)(B:AD)(m d:Nat)(l:List AZ)(M:AD)(U aw:Nat)(J:List Bool)(σ ze:Nat->Nat)(w:Aj) (h:Dt w S K (T:Int) A n zc B m l)(aH:Bw w M U J)(aW:J.length=BJ m S)(ae:Ie zc l S T (Gi J) σ ze):AC 9 #[.agg #[S,K,T,.slice A n c],.slice B m d,.slice M U aw] w λe w'=>∃(D:AD)(k c':Nat),e=.returned (.tuple #[.slice D k c',()])/\KI w' D k (Gn zc l (Gi J) σ ze)/\Ae w w':=by
 have ac:Ae w ((w.alloc (.cells #[S,K,T,.slice A n c] 24)).alloc (.cells #[.slice B m d] 25)):=((Ae.refl _).alloc _).alloc _;have hb:=(Aq.new w 24 #[S,K,T,.slice A n c]).alloc (.cells #[.slice B m d] 25);have ax:=Aq.new (w.alloc (.cells #[S,K,T,.slice A n c] 24)) 25 #[.slice B m d];rw[z3]at ax;generalize bz:(w.alloc (.cells #[S,K,T,.slice A n c] 24)).alloc (.cells #[.slice B m d] 25)=bA at *;have aI:=hb.cell 0;have aJ:=hb.cell 1;have aK:=hb.cell 2;have aL:=hb.cell 3;have aM:=ax.cell 0;have aX:=h.len;have H:=h.ext ac;have ay:=aH.ext ac;have bB:=ac;have V:=hb;have aN:=ax;have aa:=zk aX;have af:=zk aW;have az:=h.hm;have aA:=h.bc;have aY:U=BJ m S:=by have:=aH.1;omega
 have bC:=FE az aA.2;have b1:U<=180:=Ad;have aZ:=zk aY;have a1:∀a,a<m->σ a<m:=λa ag=>by have:=ae.lt a Ad;omega
 have a5:∀a b,a<m->b<m->σ a=σ b->a=b:=λa b ag hb=>ae.inj a b Ad Ad;have a6:=zk a5;clear h aH ac hb ax aX aW aY bC a5;go_enter func9,ntmps9;go_wp2_with fail
 refine(Acp S K T A n c zc B m d l bA H).mono ?_;rintro e bD⟨rfl,ab⟩;have aI:=ab.cell (V.cell 0);have aJ:=ab.cell (V.cell 1);have aK:=ab.cell (V.cell 2);have aL:=ab.cell (V.cell 3);have aM:=ab.cell (aN.cell 0);clear bz;go_wp2_with fail
 refine(AdC S T K A n c zc B m d l M U aw J σ ze bD (H.ext ab) (ay.ext ab) af ae).mono ?_;rintro e w2⟨rfl,Z⟩;have Z:=ab.trans Z;have a7:=zk Z;have aI:=Z.cell (V.cell 0);have aJ:=Z.cell (V.cell 1);have aK:=Z.cell (V.cell 2);have aL:=Z.cell (V.cell 3);have aM:=Z.cell (aN.cell 0);clear Z;go_wp2_with fail
 refine(KF S K T A n c zc B m d l w2 (H.ext a7)).mono ?_;rintro e aB⟨rfl,a8⟩;have a9:Ae aB (aB.alloc (.cells #[m,S] 67)):=(Ae.refl _).alloc _;have aC:=Aq.new aB 67 #[m,S];generalize bE:aB.alloc (.cells #[m,S] 67)=bF at *;have aD:=aC.cell 0;have aE:=aC.cell 1;have ba:=a7.trans (a8.trans a9);have aO:=aC;clear a8 a9 aC aI aJ aK aL aM;go_wp2_with fail
 refine(Sc m S M U aw J σ bF az aA (ay.ext ba) af a1 a6 (λa ag k aF=>by have:=ae.place a (by have:=aa.out;omega) k (by have:=aa.out;omega);rwa[aa.out]at this)).mono ?_;rintro e bG⟨D,b2,rfl,bH,al⟩;have bc:=ba.trans al;have aD:=al.cell (aO.cell 0);have aE:=al.cell (aO.cell 1);have bI:=aO.ext al;clear al bE;go_wp2_with fail
 refine(WJ m S M U aw J ze bG az aA (ay.ext bc) af (λk aF=>ae.cF k (by have:=aa.out;omega)) (λk aF b hb=>by have:=ae.state k (by have:=aa.out;omega) b hb;rwa[aa.out]at this)).mono ?_;rintro e ah⟨E,am,an,rfl,bd,aG⟩;have ao:Ae ah (ah.alloc (.cells #[.slice E am an] 86)):=(Ae.refl _).alloc _;have be:=Aq.new ah 86 #[.slice E am an];generalize bJ:ah.alloc (.cells #[.slice E am an] 86)=O at *;have aq:=bc.trans (aG.trans ao);have bK:=bH.ext (aG.trans ao);have bf:=bI.ext (aG.trans ao);have bL:(AiS O S T K A n c zc B m d l w ah (w+1) ze E am an):=⟨H.ext aq,V.ext aq,be,aN.ext aq,bd.ext ao⟩;have bh:=YG O;have bM:Ae O ((O.alloc (.cells #[] 98)).alloc (.cells #[.slice O 0 0] 46)):=((Ae.refl _).alloc _).alloc _;have aP:=Aq.new (O.alloc (.cells #[] 98)) 46 #[.slice O 0 0];rw[z3]at aP;have bN:=AP.alloc bh (.cells #[.slice O 0 0] 46);have bO:=aP;clear bd aG ao be aD aE bh aP;go_wp2;clear bJ;go_loopw[48](λv wr=>∃k:Nat,v=k/\k<=m/\(∃u,Aq wr (O+1) 46 #[u]/\En wr O u (Da zc l (Gi J) σ ze k))/\Ae O wr)(λv _=>m-(intOf v).toNat);case atStart=>exact⟨0,rfl,zx _,⟨_,bO,bN⟩,bM⟩
 case round=>
  obtain⟨k,rfl,aF,⟨u,bi,bj⟩,aj⟩:=hrel;have b3:=VS zc l (Gi J) σ ze k;by_cases aQ:k<m
  . obtain⟨b4,x,rfl,ac,bk,_⟩:=(bK.ext aj).at_ aQ;obtain rfl:x=((Ff m σ k:Nat):Int):=by have ad:=ac.out;rw[Rf σ aQ]at ad;injection ad with ad;exact ad.symm
    have ag:=(FC a1 a6 aQ).1;have aR:Hid (Da zc l (Gi J) σ ze (k+1)=Da zc l (Gi J) σ ze k++if Gi J (Er m (Ff m σ k))then[(Ff m σ k,II zc ((ze k:Nat):Int) (opAt l (Ff m σ k)).aq)]else[]):=zk (by rw[KG];unfold IZ;rw[aa.out];cases Gi J (Er m (Ff m σ k))<;>simp);generalize Ff m σ k=a at *;have aD:=aj.cell (bf.cell 0);have aE:=aj.cell (bf.cell 1);have bn:=AhL m S a wr az aA ag;obtain⟨z,aS⟩:∃z,Er m a=z:=⟨_,rfl⟩;have aT:0<z/\z<=(J.length:Int):=by rw[<-aS,af.out];exact⟨Ge _ _,(Oa (S:=S) ag).2.2⟩
    obtain⟨i,br,bP,bt⟩:=TR aT.1 aT.2;rw[aS]at bn aR;have b5:IntKind.i64.wrap (z-1)=(i:Int):=by rw[z5 _ (by have:=af.out;have:=aZ.out;omega),br]
    have bQ:i<U:=by have:=af.out;have:=aZ.out;omega
    obtain⟨b6,y,rfl,bu,au⟩:=(ay.ext (aq.trans aj)).at_ bQ;obtain rfl:Gi J z=y:=by have ad:=bu.out;rw[bt]at ad;injection ad
    have b7:(i:Int)<(U:Int):=Ad;have b8:(0:Int)<=(i:Int):=Ad;have b9:(k:Int)<(m:Int):=Ad;have cc:(0:Int)<=(k:Int):=Ad;clear ac aS aT br bP bt bu;go_wp2_with fail
    refine bn.mono ?_;rintro e bR⟨rfl,av⟩;have aU:=aj.trans av;have bw:=bi.ext av;have bx:=AP.ext bj av;have au:=av.cell au;clear av aD aE bk;cases ak:Gi J z with
    |false=>
     have aV:Hid (Da zc l (Gi J) σ ze (k+1)=Da zc l (Gi J) σ ze k):=zk (by rw[aR.out,ak];simp);rw[ak]at au;clear ak;go_wp2;go_roundw;case rel=>exact⟨k+1,by go_num,Ad,⟨u,bw,by rw[aV.out];exact bx⟩,aU⟩
     case measure=>simp[intOf];omega
    |true=>
     have aV:Hid (Da zc l (Gi J) σ ze (k+1)=Da zc l (Gi J) σ ze k++[(a,II zc ((ze k:Nat):Int) (opAt l a).aq)]):=zk (by rw[aR.out,ak];simp);rw[ak]at au;clear ak;go_wp2_with fail
     refine(Aej O S T K A n c zc B m d l w ah (w+1) (O+1) O k a ze E am an u _ bR bL aU Ad (zs _) aU.size bw bx Ad aF ag).mono ?_;rintro e ce⟨rfl,⟨bS,bT,bU⟩,bV,_⟩;clear au;go_wp2;go_roundw;case rel=>exact⟨k+1,by go_num,Ad,⟨bS,bT,by rw[aV.out];exact bU⟩,bV⟩
     case measure=>simp[intOf];omega
  . obtain rfl:m=k:=Ad;obtain⟨bW,bX,bY,bZ⟩:=En.cT bj Ad;subst bY;have bk:=bi.cell 0;have b0:Hid (Gn zc l (Gi J) σ ze=Da zc l (Gi J) σ ze m):=zk (by unfold Gn;rw[aa.out]);skip;go_wp2;go_ret2;exact⟨bW,_,bX,rfl,by rw[b0.out];exact bZ,bB.trans (aq.trans aj)⟩
def TM(D:AD)(k e:Nat)(p:List (Nat×Int))(i:Nat)(w:Aj)(Z:KI w D k p)(ag:k<=1000):AC 95 #[.slice D k e,i] w λe w'=>e=.returned (CP p i)/\w=w':=by
 have aa:=zk Z.len;skip;go_enter func95,ntmps95;go_wp2;go_loop[5](λv=>∃j:Nat,j<=k/\v=j/\∀q∈p.take j,(q.1==i)=false)(λv=>k-(intOf v).toNat);case atStart=>exact⟨0,zx _,rfl,AG⟩
 case round=>
  obtain⟨j,ah,rfl,H⟩:=hrel;have J:=zk H;by_cases ab:j<k;obtain⟨aj,x,r,rfl,O,ak,al⟩:=Z.at_ ab;have ac:=zk O;have ad:=zk (AM O);have am:(j:Int)<(k:Int):=Ad;have an:(0:Int)<=(j:Int):=Ad;clear H O;by_cases T:x=i;subst T;have ae:Hid (CP p x=(j:Int)):=zk (by
   have E:=zl.1 ac;have U:p.findIdx? (λq=>q.1==x)=some j:=by rw[yq];refine⟨E.1,by rw[E.2];simp,λy V=>?_⟩;have:=J (p[y]'(ac3 V E.1)) (zm (i:=y) (by rw[xa V,zr (ac3 V E.1)]));simpa using this
   unfold CP;rw[U])
  go_wp2;go_ret;exact⟨by rw[ae.out];rfl,rfl⟩;have ao:((x:Int)==(i:Int))=false:=Ca;have af:Hid ((x==i)=false):=zk (by simpa using T);clear T;go_wp2;go_round;case rel=> refine⟨j+1,Ad,by go_num,λq u=>?_⟩;rw[ad.out]at u;rcases zz.1 u with u|u;exact J q u;rw[zy.1 u];exact af
  case measure=>simp[intOf];omega
  obtain rfl:k=j:=Ad;clear H;go_wp2;go_ret;have U:p.findIdx? (λq=>q.1==i)=none:=by rw[yz];have:=J.out;rw[z1 (by have:=aa.out;omega)]at this;exact this
  refine⟨?_,rfl⟩;unfold CP;rw[U];rfl
def Jg(l:List AZ)(p:List (Nat×Int))(i k:Nat):Bool:=!(Cw (opAt l i) (opAt l k)&&decide (0<=CP p k)&&(decide (CP p i<0)||decide (CP p k<CP p i)))
def Lw(l:List AZ)(p:List (Nat×Int))(i:Nat):Bool:=(decide ((opAt l i).an=-1)||decide (0<=CP p i))&&(List.range l.length).all (Jg l p i)
def TV(l:List AZ)(p:List (Nat×Int)):Ha l p=(List.range l.length).all (Lw l p):=rfl
def Agq{l:List AZ}{p:List (Nat×Int)}(h:∀i,i<l.length->Lw l p i=true):Ha l p=true:=by rw[TV,yn];exactλi hi=>h i (zv.1 hi)
def AgD{l:List AZ}{p:List (Nat×Int)}{i:Nat}(hi:i<l.length)(h:Lw l p i=false):Ha l p=false:=by rw[TV,List.all_eq_false];exact⟨i,zv.2 hi,by rw[h];simp⟩
def Ahp{l:List AZ}{p:List (Nat×Int)}{i:Nat}(u:(opAt l i).an=-1\/0<=CP p i)(h:∀k,k<l.length->Jg l p i k=true):Lw l p i=true:=by unfold Lw;rw[z4,abg,z8,z8,yn];exact⟨u,λk E=>h k (zv.1 E)⟩
def Afw{l:List AZ}{p:List (Nat×Int)}{i:Nat}(u:(opAt l i).an≠-1)(E:CP p i<0):Lw l p i=false:=by unfold Lw;rw[zn u,zn Ad];rfl
def Afv{l:List AZ}{p:List (Nat×Int)}{i k:Nat}(u:k<l.length)(h:Jg l p i k=false):Lw l p i=false:=by unfold Lw;rw[Bool.and_eq_false_iff];right;rw[List.all_eq_false];exact⟨k,zv.2 u,by rw[h];simp⟩
def O0(zc:List Ba)(l:List AZ)(zj:Int)(p:List (Nat×Int)):Bool:=(B0 zc l [] zj p).isSome&&Ha l p
def AhF(S:Nat)(K zj:Int)(A:AD)(n c:Nat)(zc:List Ba)(B:AD)(m d:Nat)(l:List AZ)(D:AD)(k e:Nat)(p:List (Nat×Int))(w:Aj)(h:Dt w S K zj A n zc B m l)(aZ:KI w D k p)(am:k<=1000)(a1:∀q∈p,q.1<m):AC 31 #[.agg #[S,K,zj,.slice A n c],.slice B m d,.slice D k e] w λe w'=>e=.returned (.bool (O0 zc l zj p))/\Ae w w':=by
 have Z:Ae w (w.alloc (.cells #[S,K,zj,.slice A n c] 24)):=(Ae.refl _).alloc _;have hb:=Aq.new w 24 #[S,K,zj,.slice A n c];generalize bw:w.alloc (.cells #[S,K,zj,.slice A n c] 24)=bx at *;have bz:=hb.cell 0;have bA:=hb.cell 1;have bB:=hb.cell 2;have bC:=hb.cell 3;have H:=h.ext Z;have a5:=aZ.ext Z;have ay:=Z;have bD:=zk a1;have bS:=h.hm;have az:=zk h.len;have bE:Hid (0<=zj/\zj<S):=zk h.b6.2.2.1;clear h aZ Z hb a1;go_enter func31,ntmps31;go_wp2_with fail
 refine(RC S K zj A n c zc B m d l zj D k e p bx H a5 am bE bD).mono ?_;rintro e bF⟨a0,ag,bG,rfl,⟨aF,aG⟩,ab⟩;clear bw bz bA bB bC;cases ah:B0 zc l [] zj p with
 |none=>
  have a6:=aG ah;have aa:(bG !=0)=true:=by simpa using a6
  have an:Hid (O0 zc l zj p=false):=zk (by unfold O0;rw[ah];rfl);clear a6 ah aF aG;go_wp2;go_ret;exact⟨by rw[an.out];rfl,ay.trans ab⟩
 |some s'=>
  obtain⟨rfl,rfl⟩:=aF s' ah;have an:Hid (O0 zc l zj p=Ha l p):=zk (by unfold O0;rw[ah];rfl);clear ah aF aG;go_wp2;go_loopw[6,10](λ_ v wr=>∃a:Nat,a<=m/\v=a/\(∀i,i<a->Lw l p i=true)/\Ae bF wr)(λ_ v _=>m-(intOf v).toNat);case atStart=>exact⟨0,zx _,rfl,λi hi=>Ad,Ae.refl _⟩
  case round=>
   obtain⟨a,bT,rfl,aH,ac⟩:=hrel;have a7:=zk aH;by_cases bH:a<m
   . obtain⟨bU,aI,aJ,aK,E,aL,rfl,a8,a9,ba,bc,bd,be⟩:=(H.bG.ext (ab.trans ac)).at_ bH;obtain⟨aj,rfl⟩:∃aj:Aj,aj=wr:=⟨_,rfl⟩;have bf:=zk (EO a8);have bh:=a5.ext (ab.trans ac);have bV:(a:Int)<(m:Int):=Ad;have bW:(0:Int)<=(a:Int):=Ad;have bI:=zk a9;have bJ:=zk ba;have bK:=zk bc;have bL:=zk bd;have bM:=zk be;have aA:=zk (λO ad=>Afw (l:=l) (p:=p) (i:=a) O ad);have bN:=zk (λ(k:Nat)(am:k<l.length)h=>Afv (l:=l) (p:=p) (i:=a) am h);have aB:=zk (λO h=>Ahp (l:=l) (p:=p) (i:=a) O h);have bi:=zk (λh=>AgD (l:=l) (p:=p) (i:=a) (by have:=az.out;omega) h);rw[bf.out]at aA aB;dsimp only at aA aB;obtain⟨x,Z⟩:∃x,CP p a=x:=⟨_,rfl⟩;have bO:=zk Z;have aM:=zk (λW(u:Ae aj W)=>TM D k e p a W (bh.ext u) am);rw[Z]at aM aA aB;clear aH a8 a9 ba bc be Z;go_upto_region 7 with fail
     go_cut[43](λs aN=>s=.bool (decide (E≠-1)&&decide (x<0))/\Ae aj aN)
     case first=>
      by_cases ak:E=-1
      . have aa:(E !=-1)=false:=by simpa using ak
        have aO:Hid ((decide (E≠-1)&&decide (x<0))=false):=zk (by simp[ak]);clear ak;go_wp2;go_meet;exact⟨by rw[aO.out],Ae.refl _⟩
      . have aa:(E !=-1)=true:=by simpa using ak
        have aO:Hid ((decide (E≠-1)&&decide (x<0))=decide (x<0)):=zk (by simp[ak]);clear ak;go_wp2_with fail
        refine(aM aj (Ae.refl _)).mono ?_;rintro e bj⟨rfl,rfl⟩;go_wp2;go_meet;exact⟨by rw[aO.out],Ae.refl _⟩
     case rest=>
      obtain⟨rfl,aP⟩:=hcut;generalize wc=w2 at aP⊢;have aQ:=aP;clear aP bd;by_cases ae:E≠-1/\x<0;have aa:(decide (E≠-1)&&decide (x<0))=true:=by simp[ae.1,ae.2]
      have aC:=zk ae;rw[aa];clear ae aa;go_wp2;go_ret;exact⟨by rw[an.out,bi (aA aC.1 aC.2)];rfl,ay.trans (ab.trans (ac.trans aQ))⟩
      . have aa:(decide (E≠-1)&&decide (x<0))=false:=by rw[Bool.and_eq_false_iff,aah,aah];by_cases h:E=-1;exact .inl (λg=>g h);exact .inr (λg=>ae ⟨h,g⟩)
        have aC:Hid (E=-1\/0<=x):=zk (by by_cases h:E=-1;exact .inl h;exact .inr (by have:¬x<0:=λg=>ae ⟨h,g⟩;omega));rw[aa];clear ae aa;go_wp2;go_loopw[6,11](λ_ v wr=>∃b:Nat,b<=m/\v=b/\(∀y,y<b->Jg l p a y=true)/\Ae w2 wr)(λ_ v _=>m-(intOf v).toNat);case atStart=>exact⟨0,zx _,rfl,λy al=>Ad,Ae.refl _⟩
        case round=>
         obtain⟨b,hb,rfl,aR,bk⟩:=hrel;have bn:=zk aR;have T:=aQ.trans bk;by_cases bP:b<m
         . obtain⟨bX,aS,aT,aU,aV,aW,eq,br,u0,u1,u2,u3,u4⟩:=(H.bG.ext (ab.trans (ac.trans T))).at_ bP;cases eq;have bQ:=zk (EO br);obtain⟨y,al⟩:∃y,CP p b=y:=⟨_,rfl⟩;have bt:=zk (λW(u:Ae aj W)=>TM D k e p b W (bh.ext u) am);rw[al]at bt;have ao:Hid (Jg l p a b=!(Cw ⟨aI,aJ,aK,E,aL⟩ ⟨aS,aT,aU,aV,aW⟩&&decide (0<=y)&&(decide (x<0)||decide (y<x)))):=zk (by unfold Jg;rw[bf.out,bQ.out,al,bO.out]);have bY:(b:Int)<(m:Int):=Ad;have bZ:(0:Int)<=(b:Int):=Ad;clear aR br al;go_wp2_with fail
           refine(aM _ T).mono ?_;rintro e bj⟨rfl,rfl⟩;go_wp2_with fail
           refine(bt _ T).mono ?_;rintro e bj⟨rfl,rfl⟩;go_wp2_with fail
           go_cut[77](λs aN=>s=.bool (!Jg l p a b)/\Ae wr aN)
           case first=>
            have af:=zk (λW=>Ael aI aJ aK E aL aS aT aU aV aW W);have a0:=λW(u:Ae wr W)=>u.cell (T.cell bI);have aq:=λW(u:Ae wr W)=>u.cell (T.cell bJ);have a2:=λW(u:Ae wr W)=>u.cell (T.cell bK);have a3:=λW(u:Ae wr W)=>u.cell (T.cell bL);have a4:=λW(u:Ae wr W)=>u.cell (T.cell bM);have ag:=λW(u:Ae wr W)=>u.cell u0;have au:=λW(u:Ae wr W)=>u.cell u1;have av:=λW(u:Ae wr W)=>u.cell u2;have aw:=λW(u:Ae wr W)=>u.cell u3;have ax:=λW(u:Ae wr W)=>u.cell u4;clear u0 u1 u2 u3 u4;cases J:Cw ⟨aI,aJ,aK,E,aL⟩ ⟨aS,aT,aU,aV,aW⟩with
            |false=> have U:Hid ((!Jg l p a b)=false):=zk (by rw[ao.out,J];rfl);rw[J]at af;clear J;refine AL AJ ?_;(repeat first|apply Bg rfl (λW u=>Am) Am|apply AS rfl Am);apply Bu (λW u=>af W) rfl (λW u=>by go_simp) Am;(repeat first|apply Bg rfl (λW u=>Am) Am|apply AS rfl Am);refine AN λW V=>?_;clear a0 aq a2 a3 a4 ag au av aw ax;go_wp2;go_meet;exact⟨by rw[U.out],V⟩
            |true=>
             rw[J]at af;by_cases O:0<=y
             . have d1:decide (0<=y)=true:=zt O;by_cases ad:x<0
               . have d2:decide (x<0)=true:=zt ad;have U:Hid ((!Jg l p a b)=true):=zk (by rw[ao.out,J,d1,d2];rfl);clear J O ad;refine AL AJ ?_;(repeat first|apply Bg rfl (λW u=>Am) Am|apply AS rfl Am);apply Bu (λW u=>af W) rfl (λW u=>by go_simp) Am;(repeat first|apply Bg rfl (λW u=>Am) Am|apply AS rfl Am);refine AN λW V=>?_;clear a0 aq a2 a3 a4 ag au av aw ax;go_wp2;go_meet;exact⟨by rw[U.out],V⟩
               . have d2:decide (x<0)=false:=zn ad;by_cases aD:y<x
                 . have d3:decide (y<x)=true:=zt aD;have U:Hid ((!Jg l p a b)=true):=zk (by rw[ao.out,J,d1,d2,d3];rfl);clear J O ad aD;refine AL AJ ?_;(repeat first|apply Bg rfl (λW u=>Am) Am|apply AS rfl Am);apply Bu (λW u=>af W) rfl (λW u=>by go_simp) Am;(repeat first|apply Bg rfl (λW u=>Am) Am|apply AS rfl Am);refine AN λW V=>?_;clear a0 aq a2 a3 a4 ag au av aw ax;go_wp2;go_meet;exact⟨by rw[U.out],V⟩
                 . have d3:decide (y<x)=false:=zn aD;have U:Hid ((!Jg l p a b)=false):=zk (by rw[ao.out,J,d1,d2,d3];rfl);clear J O ad aD;refine AL AJ ?_;(repeat first|apply Bg rfl (λW u=>Am) Am|apply AS rfl Am);apply Bu (λW u=>af W) rfl (λW u=>by go_simp) Am;(repeat first|apply Bg rfl (λW u=>Am) Am|apply AS rfl Am);refine AN λW V=>?_;clear a0 aq a2 a3 a4 ag au av aw ax;go_wp2;go_meet;exact⟨by rw[U.out],V⟩
             . have d1:decide (0<=y)=false:=zn O;have U:Hid ((!Jg l p a b)=false):=zk (by rw[ao.out,J,d1];rfl);clear J O;refine AL AJ ?_;(repeat first|apply Bg rfl (λW u=>Am) Am|apply AS rfl Am);apply Bu (λW u=>af W) rfl (λW u=>by go_simp) Am;(repeat first|apply Bg rfl (λW u=>Am) Am|apply AS rfl Am);refine AN λW V=>?_;clear a0 aq a2 a3 a4 ag au av aw ax;go_wp2;go_meet;exact⟨by rw[U.out],V⟩
           case rest=>
            obtain⟨rfl,aX⟩:=hcut;generalize wc=b0 at aX⊢;have bu:=bk.trans aX;clear aX u0 u1 u2 u3 u4;cases aE:Jg l p a b with
            |false=> have aY:=zk aE;clear aE;go_wp2;go_ret;exact⟨by rw[an.out,bi (bN b (by have:=az.out;omega) aY)];rfl,ay.trans (ab.trans (ac.trans (aQ.trans bu)))⟩
            |true=>
             have aY:=zk aE;clear aE;go_wp2;go_roundw;case rel=> refine⟨b+1,Ad,by go_num,λy al=>?_,bu⟩;by_cases h:y=b;rw[h];exact aY;exact bn y Ad
             case measure=>simp[intOf];omega
         obtain rfl:m=b:=Ad;have bR:=zk (aB aC (λy al=>bn y (by have:=az.out;omega)));clear aR;go_wp2;go_roundw;case rel=> refine⟨a+1,Ad,by go_num,λi hi=>?_,ac.trans T⟩;by_cases h:i=a;rw[h];exact bR;exact a7 i Ad
         case measure=>simp[intOf];omega
   obtain rfl:m=a:=Ad;clear aH;go_wp2;go_ret;exact⟨by rw[an.out,Agq (λi hi=>a7 i (by have:=az.out;omega))];rfl,ay.trans (ab.trans ac)⟩
def Fg(L:List (List Nat)):AT:=L.map DN
def UD(a b:List (List Nat)):Fg (a++b)=Fg a++Fg b:=yo
def Ng(n q:Nat):List (List Nat):=(List.range (q+1)).flatMap (DO n)
def RM(n q:Nat):Ng n (q+1)=Ng n q++DO n (q+1):=by unfold Ng;rw[xi (n:=q+1),y4];simp
def MZ(o:List Nat)(y:Nat):List (List Nat):=((List.range y).filter λk=>!o.contains k).map λk=>o++[k]
def Ad6(o:List Nat)(y:Nat):MZ o (y+1)=MZ o y++if o.contains y then[]else[o++[y]]:=by unfold MZ;rw[xi,y5,yo];by_cases h:y∈o<;>simp[h]
def Uz(n:Nat)(last:List (List Nat))(z:Nat):List (List Nat):=(last.take z).flatMap λo=>MZ o n
def Ad8(n:Nat){last:List (List Nat)}{z:Nat}{o:List Nat}(h:last[z]? =some o):Uz n last (z+1)=Uz n last z++MZ o n:=by unfold Uz;rw[AM h,y4];simp
def ZQ:∀n,n<=4->∀q,q<=5->(DO n q).length<=24:=by decide+kernel
def Aii{n q:Nat}(h:DO n q=[]):n<q:=by refine Nat.lt_of_not_le λE=>?_;have:List.range q∈DO n q:=GU.2 ⟨y9,aba,λx u=>by have:=zv.1 u;omega⟩;rw[h]at this;cases this
def WG{o:List Nat}(h:∀x∈o,x<1000):∀x∈DN o,-9223372036854775808<=x/\x<=Bh:=λx u=>by obtain⟨y,E,rfl⟩:=zw.1 u;have:=h y E;omega
def Z9(o:List Nat)(y:Nat):DN (o++[y])=DN o++[(y:Int)]:=by simp[DN]
def Ss(w:Aj)(za:Nat)(hb:za<=w):AW (w.alloc (.cells #[AI] 86)) za (.slice w 1 1) [[]]:=⟨[AI],T2 w za AI 86 hb,rfl,λj xs u=>by
 cases j with
 |zero=>simp at u;subst u;exact⟨_,rfl,Ay.nil _ _⟩
 |succ j=>simp at u⟩
def Wr{L:List (List Nat)}{j:Nat}{xs:An}(h:(Fg L)[j]? =some xs):∃o,L[j]? =some o/\xs=DN o:=by
 unfold Fg at h;rw[yd]at h;cases u:L[j]? with
 |none=>rw[u]at h;cases h
 |some o=>rw[u]at h;simp at h;exact⟨o,rfl,h.symm⟩
def AgY{o:List Nat}{j:Nat}{x:Int}(h:(DN o)[j]? =some x):∃y:Nat,o[j]? =some y/\x=(y:Int):=by
 unfold DN at h;rw[yd]at h;cases u:o[j]? with
 |none=>rw[u]at h;cases h
 |some y=>rw[u]at h;simp at h;exact⟨y,rfl,h.symm⟩
def AW.eL{w w':Aj}{b:Nat}{v u:Aw}{L:AT}(h:AW w b v L)(E:w.grownBy w' u.ownBlock)(H:∀b u xs,Ay w b u xs->Ay w' b u xs)(J:∀k,v.ownBlock=some k->u.ownBlock≠some k):AW w' b v L:=by
 obtain⟨vs,a,e,c⟩:=h;refine⟨vs,aan a E ?_,e,λj xs O=>let⟨x,T,U⟩:=c j xs O;⟨x,T,H _ _ _ U⟩⟩;cases V:v.ownBlock with
 |none=>exact .inl rfl
 |some k=>exact .inr (λe=>J k V e.symm)
def I4.less{w:Aj}{b b' m:Nat}{A:AD}{vs:List Aw}{M:AT}(h:I4 w b A m vs M)(hb:b'<=b):I4 w b' A m vs M:=⟨h.1,h.2.1,λj xs E=>let⟨u,e,H⟩:=h.2.2 j xs E;⟨u,e,H.less hb⟩⟩
def AaH(n:Nat)(w:Aj)(aP:n<=4):AC 29 #[n] w λe w'=>∃(A:AD)(k c:Nat),e=.returned (.slice A k c)/\Bf w' A k (Fg (Gp n))/\Ae w w':=by
 have aj:=Ss w w (zs _);have aQ:Ae w (w.alloc (.cells #[AI] 86)):=(Ae.refl _).alloc _;have am:=Ss (w.alloc (.cells #[AI] 86)) w (by rw[z3];omega);have an:Ae (w.alloc (.cells #[AI] 86)) ((w.alloc (.cells #[AI] 86)).alloc (.cells #[AI] 86)):=(Ae.refl _).alloc _;have aj:=aj.ext an;rw[z3]at am;have bL:=zk aj;have bM:=zk am;have bN:=zk (aQ.trans an);clear aj am aQ an;go_enter func29,ntmps29;go_wp2;go_loopg[3,4](n+1)(λbO bP bQ wr=>∃q:Nat,q+bO=n+1/\AW wr w bP (Fg (Ng n q))/\AW wr w bQ (Fg (DO n q))/\Ae w wr);case atStart=>exact⟨0,Ad,bL,bM,bN⟩
 case round=>
  obtain⟨q,bR,ao,aR,u⟩:=hrel;obtain⟨H,rfl⟩:∃H:Aj,H=wr:=⟨_,rfl⟩;have bS:(DO n q).length<=24:=ZQ n aP q Ad;have aq:∀o∈DO n q,o.length=q/\∀x∈o,x<n:=λo J=>by have:=GU.1 J;exact⟨this.1,this.2.2⟩
  have ac:(Ng n q).length<=24*6:=by unfold Ng;have:=Gt (L:=List.range (q+1)) (f:=DO n) (k:=24) λx E=>ZQ n aP x (by have:=zv.1 E;omega);rw[y9]at this;have:(q+1)*24<=6*24:=ym Ad (zs _);omega
  obtain⟨cF,O,cG,rfl,au,bT⟩:=aR.aC (λxs E=>by obtain⟨o,J,rfl⟩:=zw.1 E;have:=aq o J;exact⟨by unfold DN;rw[z2];omega,WG λx E=>by have:=this.2 x E;omega⟩) (by unfold Fg;rw[z2];omega);have av:O=(DO n q).length:=by have:=au.1;unfold Fg at this;rw[z2]at this;omega
  obtain⟨bU,no,co,rfl,_,_⟩:=ao.form;have aw:=zk ao;have aS:=zk au;have bV:=zk aq;have aT:=zk ac;have ad:=zk u;have cH:=zk av;have cI:O<=24:=Ad;have bW:Hid (DO n (q+1)=Uz n (DO n q) O):=zk (by show PH n (DO n q)=_;unfold PH Uz;rw[z1 Ad];rfl);have bX:=zk (RM n q);clear ao aR au aq ac u bS bT;by_cases bY:0<O
  . have cJ:q<=n:=by
     rcases aab n q with h|h;have:q=n+1:=Ad;have:(DO n q).length=0:=by rw[List.length_eq_zero_iff,acd];intro o J;have ae:=GU.1 J;have ax:=yf ae.2.1 (l₂:=List.range n) (λx E=>zv.2 (ae.2.2 x E));rw[y9]at ax;omega
     omega;exact h
    have cK:(0:Int)<(O:Int):=Ad;clear av;go_wp2;go_loopw[5,6](λay v wr=>∃(z:Nat)(M:List (List Nat)),z<=O/\v=z/\AW wr H ay (Fg M)/\M=Uz n (DO n q) z/\M.length<=4*z/\Ae H wr)(λ_ v _=>O-(intOf v).toNat);case atStart=>exact⟨0,[],zx _,rfl,AW.nil _ _,by simp[Uz],AG,Ae.refl _⟩
    case round=>
     obtain⟨z,M,cL,rfl,Z,az,cM,u⟩:=hrel;have ak:=zk Z;have aU:=zk az;have al:=zk u;by_cases aV:z<O
     . obtain⟨bZ,xs,aW,T,b0,rfl,aA,af,ag⟩:=(aS.ext u).at_ aV;obtain⟨o,J,rfl⟩:=Wr aA;obtain⟨aX,aY⟩:=bV o (zm J);have cN:=zk aY;have b1:=zk J;have aZ:T=q:=by have:=ag.1;unfold DN at this;rw[z2]at this;omega
       have cO:T<=4:=Ad;have a1:=zk aX;have b2:=zk aZ;have a5:Hid (H.cell? (bZ.add z)=some (.slice aW T b0)/\AB H aW T (DN o)):=zk (by obtain⟨cP,cQ,A',n',c',b3,aB,a6,b4⟩:=aS.at_ aV;cases b3;have a7:=u.cell a6;rw[af]at a7;cases a7;have a8:=aB.out;rw[aA.out]at a8;cases a8;exact⟨a6,b4⟩);have cR:(z:Int)<(O:Int):=Ad;have cS:(0:Int)<=(z:Int):=Ad;clear Z az u aA af ag J aX aY aZ;go_wp2;go_loopw[5,7](λay v wr=>∃(y:Nat)(V:List (List Nat)),y<=n/\v=y/\AW wr H ay (Fg (M++V))/\V=MZ o y/\V.length<=y/\Ae H wr)(λ_ v _=>n-(intOf v).toNat);case atStart=>exact⟨0,[],zx _,rfl,by rw[yg];exact ak,by simp[MZ],AG,al⟩
       case round=>
        obtain⟨y,V,cT,rfl,Z,aC,cU,u⟩:=hrel;have aD:=zk Z;have aE:=zk aC;have ah:=zk u;by_cases cV:y<n
        . have af:=u.cell a5.out.1;have ag:=a5.out.2.ext u;have a9:=zk ag;have ba:=zk (Ad6 o y);have cW:(y:Int)<(n:Int):=Ad;clear Z aC u ag;go_wp2;go_loop[8,9](λh v=>∃j:Nat,j<=T/\v=j/\h=.bool ((o.take j).contains y))(λ_ v=>T-(intOf v).toNat);case atStart=>exact⟨0,zx _,rfl,AG⟩
          case round=>
           obtain⟨j,cX,rfl,rfl⟩:=hrel;by_cases b5:j<T
           . obtain⟨cY,cZ,rfl,bc,c0,_⟩:=a9.at_ b5;obtain⟨x,bd,rfl⟩:=AgY bc;have aF:Hid ((o.take (j+1)).contains y=((o.take j).contains y||x==y)):=zk (by
              rw[AM bd];by_cases e:x=y;subst e;simp;have:(x==y)=false:=by simpa using e
              rw[this,Bool.or_false,acb,List.contains_iff_mem,List.contains_iff_mem,zz];simp;exactλh=>absurd h.symm e)
             have c9:(j:Int)<(T:Int):=Ad;have da:(0:Int)<=(j:Int):=Ad;clear bc bd;cases U:(o.take j).contains y with
             |true=>
              have aa:=zk U;clear U;go_wp2;go_round;case rel=>exact⟨j+1,Ad,by go_num,by rw[aF.out,aa.out];rfl⟩
              case measure=>simp[intOf];omega
             |false=>
              have aa:=zk U;clear U;by_cases e:x=y
              . have b6:((x:Int)==(y:Int))=true:=by simp[e]
                have aG:Hid ((x==y)=true):=zk (by simp[e]);clear e;go_wp2;go_round;case rel=>exact⟨j+1,Ad,by go_num,by rw[aF.out,aG.out,Bool.or_true]⟩
                case measure=>simp[intOf];omega
              . have b6:((x:Int)==(y:Int))=false:=Ca;have aG:Hid ((x==y)=false):=zk (by simpa using e);clear e;go_wp2;go_round;case rel=>exact⟨j+1,Ad,by go_num,by rw[aF.out,aG.out,aa.out];rfl⟩
                case measure=>simp[intOf];omega
           obtain rfl:T=j:=Ad;have b7:Hid (o.take T=o):=zk (z1 (by have:=a1.out;have:=b2.out;omega));rw[b7.out];cases U:o.contains y with
           |true=>
            have aa:=zk U;clear U;go_wp2;go_roundw;case rel=>exact⟨y+1,V,Ad,by go_num,aD,by rw[ba.out,aa.out,zq rfl,yg];exact aE.out,Ad,ah⟩
            case measure=>simp[intOf];omega
           |false=>
            have aa:=zk U;clear U;have be:=KV wr;have bf:=zk be;have b8:=zk (a9.ext ((Ae.refl wr).alloc (.cells #[] 3)));have af:=(Ae.refl wr).alloc (.cells #[] 3)|>.cell af;clear be;go_wp2_with(first
             |(at_builtin;refine Kg _ rfl (.tmp 50) (.tmp 54) rfl wr _ [] rfl bf.out _ _ _ (DN o) rfl b8.out Ca AG ?_;intro dc bh bi bj b9;have bk:=zk bi;have bn:Hid (Ae wr bh):=Ae.grown ((Ae.refl wr).alloc _) bj (λk e=>(bf.out.J k e).1);have cc:=zk (BD bh y 3);clear bi bj b9)
             |(at_builtin;refine BW _ rfl (.tmp 55) (.tmp 57) rfl wr _ ([]++DN o) rfl (bk.out.alloc _) _ _ (y:Int) rfl cc.out Ad (by unfold DN;simp;have:=a1.out;omega) (by have:=bn.out.size;simp;omega) ?_;intro v6 br aH bt ce;obtain⟨dd,de,df,rfl⟩:=Ay.form aH;have cf:=zk aH;have aI:Hid (Ae wr br):=Ae.grown (bn.out.alloc _) bt (λk e=>(bk.out.J k e).1);clear aH bt ce)
             |(have cg:=zk (Ho br H _ _ _ _ (cf.out.less ah.out.size));at_builtin;refine EM _ rfl (.tmp 49) (.tmp 59) rfl H _ (Fg (M++V)) rfl ((aD.out.ext aI.out).ext ((Ae.refl _).alloc _)) _ _ _ _ _ rfl cg.out (by unfold Fg;rw[z2,zu];omega) (by have:=(ah.out.trans aI.out).size;simp;omega) ?_;intro ch ci cj bu bw bx bz _;have cm:=zk bw;have bA:Hid (Ae H bu):=Ae.grown ((ah.out.trans aI.out).alloc _) bx bz;clear bw bx bz))
            go_roundw;case rel=>
             have bB:MZ o (y+1)=V++[o++[y]]:=by rw[ba.out,aa.out,aE.out];rfl
             have h:=cm.out;rw[List.nil_append,<-Z9]at h;have ab:AW bu H (.slice ch ci cj) (Fg (M++MZ o (y+1))):=by rw[bB,<-yy,UD];exact h
             have ae:(MZ o (y+1)).length<=y+1:=by rw[bB];simp;omega
             first
              |exact⟨y+1,Ad,Ad,MZ o (y+1),ab,rfl,ae,bA⟩
              |exact⟨y+1,MZ o (y+1),Ad,by go_num,ab,rfl,ae,bA⟩
            case measure=>simp[intOf];omega
        obtain rfl:n=y:=Ad;clear Z aC u;go_wp2;go_roundw;case rel=>exact⟨z+1,M++V,Ad,by go_num,aD,by rw[Ad8 n b1.out,aU.out,aE.out],Ca,ah⟩
        case measure=>simp[intOf];omega
     obtain rfl:O=z:=Ad;clear Z az u;have dg:M.length<=4*24:=Ad;obtain⟨bC,aJ,bD,cn,cp,aK,bE⟩:=ak.src (by unfold Fg;rw[z2];omega);have dh:aJ<=100:=by unfold Fg at aK;rw[z2]at aK;omega
     have cq:=zk (bE.less ad.size);have cr:=zk (aw.ext al);subst cp;have bF:∀k,(Value.slice bC aJ bD).ownBlock=some k->(Value.slice bU no co).ownBlock≠some k:=λk e aB=>by have aL:=(ak.J k e).1;have ab:=(aw.J k aB).2;omega
     have cs:=zk bF;clear aK bE bF;go_wp2_with(at_builtin;refine EM _ rfl (.tmp 61) (.tmp 62) rfl w _ (Fg (Ng n q)) rfl cr.out bC aJ bD cn (Fg M) rfl cq.out (by unfold Fg;rw[z2];have:=aT.out;omega) (ad.out.trans al.out).size ?_;intro ct cu cv cx bG aM bH bI;have cy:=zk bG;have cz:=zk (ak.out.eL aM bI cs.out);have cA:Hid (Ae w cx):=Ae.grown (ad.out.trans al.out) aM bH;clear bG aM bH bI)
     go_roundg(gk-1);case rel=>
      have bJ:DO n (q+1)=M:=by rw[bW.out,aU.out]
      refine⟨q+1,Ad,?_,?_,cA⟩;rw[bX.out,UD,bJ];exact cy;rw[bJ];exact cz.less ad.size
     case measure=>omega
  have cB:O=0:=Ad;have aN:DO n q=[]:=z9 Ad;have cC:=Aii aN;have aO:q=n+1:=Ad;have ac:Ng n q=Gp n:=by
   rw[aO,RM];have:DO n (n+1)=[]:=by rw[<-aO];exact aN
   rw[this,yg];rfl
  have bK:=zk ac;subst cB;clear av aN cC aO ac bY bR;go_wp2;go_ret;have aL:=aw.out;rw[bK.out]at aL;obtain⟨ct,cu,cv,cD,cE,_⟩:=aL.aC (λxs E=>by obtain⟨o,J,rfl⟩:=zw.1 E;have ab:=Mo.1 J;refine⟨?_,WG λx E=>by have:=ab.2 x E;omega⟩;unfold DN;rw[z2];have ax:=yf ab.1 (l₂:=List.range n) (λx E=>zv.2 (ab.2 x E));rw[y9]at ax;omega) (by unfold Fg;rw[z2,<-bK.out];have:=aT.out;omega);cases cD;exact⟨_,_,_,rfl,cE,ad⟩
def VB{w:Aj}{E H J O T U:Nat}{t1 t2:TypeId}{u v:Aw}{V vs:List Aw}(Z:w.ownsRow E t1 J u T V)(aa:w.ownsRow H t2 O v U vs)(ab:t1≠t2):u.ownBlock=none\/u.ownBlock≠v.ownBlock:=by
 rcases aa.2 with⟨rfl,_⟩|⟨ac,zh,ae,rfl,_,ad,_⟩;cases e:u.ownBlock with
 |none=>exact Or.inl rfl
 |some k=>exact Or.inr (by simp[Value.ownBlock])
 exact Or.inr (D3 Z (g:=ac) (t:=t2) ad ab)
def Aic:LF 44 46 AI 1 24:=⟨underlying44,AJ,rfl,Ax,Ax⟩
def Ia(w:Aj)(b:Nat)(v:Aw)(E:List (List (Nat×Int))):Prop:=∃vs,AP w b 46 1 v vs.length vs/\vs.length=E.length/\∀(j:Nat)(P:List (Nat×Int)),E[j]? =some P->∃u,vs[j]? =some u/\En w b u P
def Ia.nil(w:Aj)(b:Nat):Ia w b AI []:=⟨[],AP.nil _ _ _ _,rfl,λ_ _ h=>by simp at h⟩
def Ia.ext{w w':Aj}{b:Nat}{v:Aw}{E:List (List (Nat×Int))}(h:Ia w b v E)(H:Ae w w'):Ia w' b v E:=let⟨vs,J,O,T⟩:=h;⟨vs,J.ext H,O,λj P U=>let⟨u,e,V⟩:=T j P U;⟨u,e,AP.ext V H⟩⟩
def AcZ(w:Aj){zf:Array Oper}{rest:List Oper}{o:Oper}{a:Act}{Q:Exit->Act->Aj->Prop}(ac:o.guard=none)(s x:Operand) (ad:o.op=.call {callee:=.builtin .append,args:=#[s,x],argTypes:=#[44,44]}) (za:Nat)(v:Aw)(H:List (List (Nat×Int)))(P:List (Nat×Int))(ae:a.eval s=v)(af:Ia w za v H)(A:AD)(c:Nat)(B:AD)(n d:Nat)(ag:a.eval x=.slice A 1 c)(ah:BA w A 1 1 [.slice B n d])(aj:En w za (.slice B n d) P)(hb:H.length<=1000000000)(ak:za<=w) (h:∀J O T w',Ia w' za (.slice J O T) (H++[P])->w.grownBy w' v.ownBlock->(∀k,v.ownBlock=some k->za<=k)->wpList prog zf Q rest (a.put o.dst (.slice J O T)) w'):wpList prog zf Q (o::rest) a w:=by
 obtain⟨vs,U,V,al⟩:=af;refine D6 Aic w ac s x ad za v vs.length vs ae U A 1 c [.slice B n d] ag ah (λu am=>by rw[zy.1 am];rfl) Ad ak λau w' Z aa av=>?_;obtain⟨J,O,T,rfl⟩:=AP.form Z;have keep:∀u P,En w za u P->En w' za u P:=λu P ab=>aan ab aa (VB ab U Ax);refine h J O T w' ⟨vs++[.slice B n d],by rw[zu];exact Z,by simp[V],λj Q E=>?_⟩ aa (λk e=>(xy U k e).1);by_cases an:j<H.length;rw[yh an]at E;obtain⟨u,e,hi⟩:=al j Q E;exact⟨u,by rw[yh Ad];exact e,keep _ _ hi⟩;rw[yi Ad]at E;have ao:j=H.length:=by have:=(zl.1 E).1;simp at this;omega
 subst ao;simp at E;subst E;exact⟨.slice B n d,by rw[yi Ad];simp[V],keep _ _ aj⟩
def AiT(w:Aj)(A:AD)(n:Nat)(u:List (List (Nat×Int))):Prop:=u.length=n/\∀(k:Nat),k<n->∃E B m d P,A=some E/\u[k]? =some P/\w.cell? (E.add k)=some (.slice B m d)/\KI w B m P
def Ia.rd{w:Aj}{b:Nat}{v:Aw}{E:List (List (Nat×Int))}(h:Ia w b v E)(af:E.length<=1000)(J:∀P∈E,P.length<=1000):∃A n c,v=.slice A n c/\AiT w A n E:=by obtain⟨vs,O,T,U⟩:=h;obtain⟨A,c,e,V,_⟩:=AP.aC O Ad;refine⟨A,_,c,e,T.symm,λk ag=>?_⟩;have H:E[k]? =some E[k]:=zr Ad;obtain⟨u,Z,aa⟩:=U k _ H;obtain⟨B,d,rfl,ab⟩:=En.cT aa (J _ (zm H));obtain⟨ac,ad,ae⟩:=V.2.2 Ad;exact⟨ac,B,_,d,_,ad,H,ae k _ Z,ab⟩
def AfT{zc:List Ba}{l:List AZ}{zj:Int}{o:List Nat}{p:List (Nat×Int)}(h:GI zc l zj o=some p)(u:Ha l p=true):FH zc l zj o=some p:=by unfold FH;rw[h];simp[u]
def AgQ{zc:List Ba}{l:List AZ}{zj:Int}{o:List Nat}{p:List (Nat×Int)}(h:GI zc l zj o=some p)(u:Ha l p=false):FH zc l zj o=none:=by unfold FH;rw[h];simp[u]
def AfI{zc:List Ba}{l:List AZ}{zj:Int}{o:List Nat}(h:GI zc l zj o=none):FH zc l zj o=none:=by unfold FH;rw[h]
def W6:∀n,n<=4->(Gp n).length<=65:=by decide+kernel
def AhZ(S:Nat)(K zj:Int)(A:AD)(n c:Nat)(zc:List Ba)(B:AD)(m d:Nat)(l:List AZ)(w:Aj)(h:Dt w S K zj A n zc B m l):AC 8 #[.agg #[S,K,zj,.slice A n c],.slice B m d] w λe w'=>∃(A:AD)(k c:Nat),e=.returned (.slice A k c)/\AiT w' A k (Ij zc l zj)/\Ae w w':=by
 have V:Ae w (w.alloc (.cells #[S,K,zj,.slice A n c] 24)):=(Ae.refl _).alloc _;have hb:=Aq.new w 24 #[S,K,zj,.slice A n c];generalize a7:w.alloc (.cells #[S,K,zj,.slice A n c] 24)=a8 at *;have H:=h.ext V;have a9:=V;have ba:=hb;have aE:=h.hm;have aF:=zk h.len;have bc:=W6 m aE;clear h V hb;go_enter func8,ntmps8;go_wp2_with fail
 refine(AaH m a8 aE).mono ?_;rintro e af⟨bO,Z,bP,rfl,aG,ag⟩;have aH:Z=(Gp m).length:=by have:=aG.1;unfold Fg at this;rw[z2]at this;omega
 have bQ:Z<=65:=Ad;have bd:=zk aH;have U:=ba.ext ag;have be:Hid (Ij zc l zj=(Gp m).filterMap (FH zc l zj)):=zk (by unfold Ij;rw[aF.out]);clear a7 aH bc;go_wp2;go_loopw[5,7](λv i wr=>∃(j:Nat)(u:List (List (Nat×Int))),j<=Z/\i=j/\Ia wr af v u/\u=((Gp m).take j).filterMap (FH zc l zj)/\u.length<=j/\Ae af wr)(λ_ i _=>Z-(intOf i).toNat);case atStart=>exact⟨0,[],zx _,rfl,Ia.nil _ _,AG,AG,Ae.refl _⟩
 case round=>
  obtain⟨j,u,bR,rfl,aI,au,bS,O⟩:=hrel;have bf:=zk au;by_cases bh:j<Z
  . obtain⟨bT,xs,bi,aJ,bj,rfl,aK,aL,ac⟩:=(aG.ext O).at_ bh;obtain⟨o,av,rfl⟩:=Wr aK;obtain⟨aM,aw⟩:=Mo.1 (zm av);have bk:o.length<=4:=by have ax:=yf aM (l₂:=List.range m) (λx V=>zv.2 (aw x V));rw[y9]at ax;omega
    have bn:aJ<=100:=by have:=ac.1;unfold DN at this;rw[z2]at this;omega
    have ay:Hid (((Gp m).take (j+1)).filterMap (FH zc l zj)=u++(match FH zc l zj o with|some p=>[p]|none=>[])):=zk (by rw[AM av,List.filterMap_append,<-au];cases br:FH zc l zj o<;>simp[br]);have bt:=Agf S K zj A n c zc B m d l bi aJ bj o wr.drew (H.ext (ag.trans O.drew)) (ac.ext (Ae.refl wr).drew) bn aw;have bU:(j:Int)<(Z:Int):=Ad;have bV:(0:Int)<=(j:Int):=Ad;have ah:=O.cell (U.cell 0);have aj:=O.cell (U.cell 1);have ak:=O.cell (U.cell 2);have al:=O.cell (U.cell 3);clear au aK ac av aM;go_wp2;go_cut[8,9](λbu bw aN=>∃(E:AD)(ad J:Nat)(aa:Int),bu=.slice E ad J/\bw=aa/\((∀p,GI zc l zj o=some p->En aN wr (.slice E ad J) p/\aa=0)/\(GI zc l zj o=none->aa≠0))/\Ae wr aN)
    case first=>
     go_region_law((go_simp;go_at_call 30;(refine bt.mono ?_);rintro e W⟨E,ad,J,aa,rfl,aO,T⟩;have bx:=zk aO;clear aO ah aj ak al aL))
     all_goals
      go_wp2_with fail
      go_meet;exact⟨E,ad,J,aa,rfl,rfl,bx,(Ae.refl wr).drew.trans T⟩
    case rest=>
     obtain⟨E,ad,J,aa,rfl,rfl,⟨az,aA⟩,am⟩:=hcut;generalize wc=bz at *;have T:=O.trans am;have aP:=aI.ext am;clear ah aj ak al aL;cases ab:GI zc l zj o with
     |none=>
      have aQ:=aA ab;have bW:(aa==0)=false:=by simpa using aQ
      have ae:Hid (FH zc l zj o=none):=zk (AfI ab);clear az aA ab aQ am;go_wp2;go_roundw;case rel=>exact⟨j+1,u,Ad,by go_num,aP,by rw[ay.out,ae.out];simp,Ad,T⟩
      case measure=>simp[intOf];omega
     |some p=>
      obtain⟨aB,rfl⟩:=az p ab;obtain⟨⟨s',aR⟩,an⟩:=RA (s:=zj) (out:=[]) (by simp[B0]) ab;rw[abd,List.nil_append]at an;have bX:p.length<=4:=by have:=aby List.length an;rw[z2]at this;have:=bk;omega
      have aS:∀q∈p,q.1<m:=λq bA=>aw q.1 (by rw[<-an];exact zw.2 ⟨q,bA,rfl⟩);obtain⟨bY,bZ,bB,aT⟩:=En.cT aB Ad;cases bB;have aU:O0 zc l zj p=Ha l p:=by unfold O0;rw[aR];rfl
      have aV:=AhF S K zj A n c zc B m d l E p.length J p bz (H.ext (ag.trans T)) aT Ad aS;rw[aU]at aV;have bC:=AP.less aB O.size;have ah:=T.cell (U.cell 0);have aj:=T.cell (U.cell 1);have ak:=T.cell (U.cell 2);have al:=T.cell (U.cell 3);have aW:=zk ab;clear az aA ab am aB aR an aS aT aU;go_wp2_with fail
      refine aV.mono ?_;rintro e aC⟨rfl,ao⟩;have aD:=T.trans ao;have aX:=aP.ext ao;have bD:=AP.ext bC ao;clear ao ah aj ak al;cases aq:Ha l p with
      |false=>
       have ae:Hid (FH zc l zj o=none):=zk (AgQ aW aq);clear aq;go_wp2;go_roundw;case rel=>exact⟨j+1,u,Ad,by go_num,aX,by rw[ay.out,ae.out];simp,Ad,aD⟩
       case measure=>simp[intOf];omega
      |true=>
       have ae:Hid (FH zc l zj o=some p):=zk (AfT aW aq);have ac:=BA.bz aC #[.slice E p.length J] 46;have bE:(BA (aC.alloc (.cells #[.slice E p.length J] 46)) aC 1 1 [.slice E p.length J]):=ac;clear aq ac;go_wp2_with(at_builtin;refine AcZ _ rfl (.tmp 37) (.tmp 39) rfl af _ u p rfl (aX.ext ((Ae.refl _).alloc _)) _ _ E p.length J rfl bE (AP.alloc bD _) Ad (by have:=aD.size;simp;omega) ?_;intro b0 b1 b2 bF bG aY aZ;have bH:Hid (Ae af bF):=Ae.grown (aD.alloc _) aY aZ;clear aY aZ)
       go_roundw;case rel=>exact⟨j+1,u++[p],Ad,by go_num,bG,by rw[ay.out,ae.out],Ca,bH⟩
       case measure=>simp[intOf];omega
  obtain rfl:Z=j:=Ad;skip;go_wp2;go_ret;have a1:Ij zc l zj=u:=by rw[be.out,bf.out,z1 (by have:=bd.out;omega)]
  obtain⟨bI,bJ,bK,bL,bM⟩:=Ia.rd aI Ad (λP a5=>by rw[<-a1]at a5;obtain⟨s,bN⟩:=(N6.1 a5).1;have a6:=Iv bN;have ax:=yf a6.1 (l₂:=List.range l.length) (λx V=>zv.2 (a6.2 x V).1);rw[y9,z2]at ax;have:=aF.out;omega);subst bL;rw[a1];exact⟨bI,bJ,bK,rfl,bM,a9.trans (ag.trans O)⟩
def AdQ(A:AD)(n c:Nat)(p:List (Nat×Int))(B:AD)(m d:Nat)(q:List (Nat×Int))(w:Aj)(ae:KI w A n p)(af:KI w B m q)(aC:n<=1000)(aD:m<=1000):AC 10 #[.slice A n c,.slice B m d] w λe w'=>e=.returned (.bool (decide (p=q)))/\Ae w w':=by
 have ag:=zk ae.len;have ah:=zk af.len;skip;by_cases aj:n=m
 . subst aj;go_enter func10,ntmps10;go_wp2;go_loopw[5](λi wr=>∃j:Nat,i=j/\j<=n/\p.take j=q.take j/\Ae w wr)(λi _=>n-(intOf i).toNat);case atStart=>exact⟨0,rfl,zx _,AG,Ae.refl _⟩
   case round=>
    obtain⟨j,rfl,aE,U,J⟩:=hrel;have ak:=zk U;by_cases al:j<n;obtain⟨aF,V,Z,rfl,aa,am,an⟩:=(ae.ext J).at_ al;obtain⟨aG,ab,ac,rfl,ad,u0,u1⟩:=(af.ext J).at_ al;have ax:=zk (AM aa);have ay:=zk (AM ad);have ao:=zk aa;have aq:=zk ad;have aH:(j:Int)<(n:Int):=Ad;have aI:(0:Int)<=(j:Int):=Ad;have a0:=λW(u:Ae wr W)=>u.cell am;have au:=λW(u:Ae wr W)=>u.cell an;have av:=λW(u:Ae wr W)=>u.cell u0;have aw:=λW(u:Ae wr W)=>u.cell u1;clear U aa ad am an u0 u1;by_cases H:V=ab
    . subst H;by_cases H:Z=ac;focus subst H
      rotate_left;focus
       have az:decide (Z=ac)=false:=zn H;have aA:(Z==ac)=false:=by simpa using H
       skip
      all_goals go_wp2;refine AL AJ ?_;(repeat first|apply Bg rfl (λW u=>Am) Am|apply AS rfl Am);refine AN λW u=>?_;have O:=J.trans u;clear u a0 au av aw;go_wp2
      go_ret;refine⟨?_,O⟩;rw[zn (λe=>H (by have E:=ao.out;have T:=aq.out;rw[e,T]at E;cases E;rfl))];rfl;go_roundw;case rel=>exact⟨j+1,by go_num,Ad,by rw[ax.out,ay.out,ak.out],O⟩
      case measure=>simp[intOf];omega
    have aB:¬(V:Int)=(ab:Int):=Ad;have aA:((V:Int)==(ab:Int))=false:=by simpa using aB
    go_wp2;refine AL AJ ?_;(repeat first|apply Bg rfl (λW u=>Am) Am|apply AS rfl Am);refine AN λW u=>?_;have O:=J.trans u;clear u a0 au av aw;go_wp2;go_ret;refine⟨?_,O⟩;rw[zn (λe=>H (by have E:=ao.out;have T:=aq.out;rw[e,T]at E;cases E;rfl))];rfl;obtain rfl:n=j:=Ad;clear U;go_wp2;go_ret;have E:=ak.out;rw[z1 (by have:=ag.out;omega),z1 (by have:=ah.out;omega)]at E;exact⟨by rw[zt E];rfl,J⟩
 have az:((n:Int)!=(m:Int))=true:=Ca;skip;go_enter func10,ntmps10;go_wp2;go_ret;refine⟨?_,Ae.refl _⟩;rw[zn (λe=>aj (by have E:=ag.out;have T:=ah.out;rw[e]at E;omega))];rfl
