import Derived.Test.YtdmempceikifeaaGreatA10
import Derived.Deep.DeepCutAuto
set_option maxRecDepth 100000
set_option maxHeartbeats 16000000
set_option linter.all false
namespace Go.Proofs.YtdmempceikifeaaGreat
open Go.RowKit Tryz
section
open Go.Maps
def Ev(l:List AZ):An:=l.flatMap λx=>if 0<=x.an then[x.st,x.an]else[x.st]
def Jb(l:List AZ)(p:Int):Option AZ:=l.foldl (λa x=>if p=x.aD then some x else a) none
def Rb(l:List AZ)(j:Nat)(x:AZ):Bool:=(decide (0<j)&&decide (x.st<=(opAt l (j-1)).st))||decide (0<Cg (Ev (l.take j)) x.st)||(decide (0<=x.an)&&decide (0<Cg (Ev (l.take j)) x.an))
def J5(l:List AZ)(j:Nat)(x:AZ):Bool:=match Jb (l.take j) x.aD with|some p=>!Cw p x|none=>false
def EV(l:List AZ):Prop:=l.length<=5000/\∀j x,l[j]? =some x->Sr x/\Rb l j x=false/\J5 l j x=false
def X4(l:List AZ)(x:AZ):Ev (l++[x])=Ev l++[x.st]++if 0<=x.an then[x.an]else[]:=by unfold Ev;rw[y4];by_cases h:0<=x.an<;>simp[h]
def Aco(l:List AZ):(Ev l).length<=2*l.length:=by
 induction l with
 |nil=>simp[Ev]
 |cons x l u=>
  have e:Ev (x::l)=(if 0<=x.an then[x.st,x.an]else[x.st])++Ev l:=rfl;rw[e,zu,List.length_cons];have:(if 0<=x.an then[x.st,x.an]else[x.st]).length<=2:=by split<;>simp
  omega
def Z5(l:List AZ)(x:AZ)(p:Int):Jb (l++[x]) p=if p=x.aD then some x else Jb l p:=by unfold Jb;rw[xr];rfl
def Ql(x:AZ):Aw:=.agg #[x.aD,x.aq,x.st,x.an,x.aT]
def WE:NG 174 3 ():=⟨underlying174,LP⟩
def Ae1:NG 230 96 (Ql Afi):=⟨underlying230,λw=>AJ⟩
def FN(w:Aj)(b k:Nat)(U:An):Prop:=∃u f,BB w b u f/\u.length<=k/\∀z,(f z).getD ()=(Cg U z)
def Gd(w:Aj)(b k:Nat)(l:List AZ):Prop:=∃u f,BB w b u f/\u.length<=k/\∀z,f z=(Jb l z).map Ql
def FN.made(w:Aj):FN (w.alloc (.map #[] 0)) w 0 []:=⟨[],_,BB.made w,AG,λz=>by rw[OV];rfl⟩
def Gd.made(w:Aj):Gd (w.alloc (.map #[] 0)) w 0 []:=⟨[],_,BB.made w,AG,λz=>rfl⟩
section
variable{w w':World}{b k:Nat}{U:List Int}{l:List AZ}
theorem FN.ext(h:FN w b k U)(u:Ae w w'):FN w' b k U:=let⟨E,f,H,J⟩:=h;⟨E,f,H.ext u,J⟩
theorem Gd.ext(h:Gd w b k l)(u:Ae w w'):Gd w' b k l:=let⟨E,f,H,J⟩:=h;⟨E,f,H.ext u,J⟩
theorem FN.grown{g:Nat}(h:FN w b k U)(u:w.grownBy w' (some g))(E:b≠g):FN w' b k U:=let⟨H,f,J,O⟩:=h;⟨H,f,J.grown u (λe=>E (by injection e)),O⟩
theorem Gd.grown{g:Nat}(h:Gd w b k l)(u:w.grownBy w' (some g))(E:b≠g):Gd w' b k l:=let⟨H,f,J,O⟩:=h;⟨H,f,J.grown u (λe=>E (by injection e)),O⟩
theorem FN.mono{u:Nat}(h:FN w b k U)(E:k<=u):FN w b u U:=let⟨H,f,J,O,T⟩:=h;⟨H,f,J,z7 O E,T⟩
theorem FN.ai{g:Nat}{t:TypeId}{u:Ck}(h:FN w b k U)(E:Aq w g t u):b≠g:=let⟨_,_,H,_⟩:=h;H.ai E
theorem Gd.ai{g:Nat}{t:TypeId}{u:Ck}(h:Gd w b k l)(E:Aq w g t u):b≠g:=let⟨_,_,H,_⟩:=h;H.ai E
theorem FN.look(h:FN w b k U){x:Int}(u:Bj x):(Instr.lookup 174 (.map (some b)) x false).run prog w=.ok (Cg U x) w:=by obtain⟨J,f,E,_,H⟩:=h;rw[E.look WE u,H]
theorem Gd.look(h:Gd w b k l){x:Int}(u:Bj x):(Instr.lookup 230 (.map (some b)) x true).run prog w=.ok (.tuple #[Ql ((Jb l x).getD Afi),.bool (Jb l x).isSome]) w:=by obtain⟨J,f,E,_,H⟩:=h;rw[E.eW Ae1 u,H];cases Jb l x<;>rfl
end
def OH(w:Aj){zf:Array Oper}{rest:List Oper}{o:Oper}{a:Act}{Q:Exit->Act->Aj->Prop}(H:o.guard=none)(m x v:Operand)(J:o.op=Op.mapUpdate 174 m x v) (b k:Nat)(U:An)(O:a.eval m=.map (some b))(T:FN w b k U)(ah:k<=1000000000)(y:Int)(z:Int)(V:a.eval x=y)(Z:a.eval v=z)(aa:z=Cg U y+1)(ab:Bj y) (ac:∀w',FN w' b (k+1) (U++[y])->w.grownBy w' (some b)->wpList prog zf Q rest (a.put o.dst undef) w'):wpList prog zf Q (o::rest) a w:=by obtain⟨E,f,ad,aj,ae⟩:=T;refine Lt WE w H m x v J b E f O ad Ad y _ V Z ab λw' af ag=>ac w' ⟨_,_,af,by have:=KX E y;omega,λu=>?_⟩ ag;rw[<-KU];dsimp only;by_cases e:u=y;rw[zq e,zq e,aa];rfl;rw[zo e,zo e];exact ae u
def VA(w:Aj){zf:Array Oper}{rest:List Oper}{o:Oper}{a:Act}{Q:Exit->Act->Aj->Prop}(H:o.guard=none)(m x v:Operand)(J:o.op=Op.mapUpdate 230 m x v) (b k:Nat)(l:List AZ)(q:AZ)(O:a.eval m=.map (some b))(T:Gd w b k l)(ag:k<=1000000000)(V:a.eval x=q.aD)(Z:a.eval v=Ql q)(aa:Bj q.aD) (ab:∀w',Gd w' b (k+1) (l++[q])->w.grownBy w' (some b)->wpList prog zf Q rest (a.put o.dst undef) w'):wpList prog zf Q (o::rest) a w:=by obtain⟨E,f,ac,ah,ad⟩:=T;refine Lt Ae1 w H m x v J b E f O ac Ad q.aD _ V Z aa λw' ae af=>ab w' ⟨_,_,ae,by have:=KX E q.aD;omega,λu=>?_⟩ af;rw[Z5];by_cases e:u=q.aD;rw[zq e,zq e];rfl;rw[zo e,zo e];exact ad u
def LW(w:Aj){zf:Array Oper}{rest:List Oper}{o:Oper}{a:Act}{Q:Exit->Act->Aj->Prop}(u:o.guard=none)(m x:Operand)(E:o.op=Op.lookup 230 m x true) (b k:Nat)(l:List AZ)(H:a.eval m=.map (some b))(J:Gd w b k l)(y:Int)(O:a.eval x=y)(T:Bj y) (V:wpList prog zf Q rest (a.put o.dst (.tuple #[Ql ((Jb l y).getD Afi),.bool (Jb l y).isSome])) w):wpList prog zf Q (o::rest) a w:=by refine x5 u λaa Z=>?_;unfold Oper.wp;simp[execOp,E,H,O,J.look T,Result.andThen];exact Z _ _ V
def PA(w:Aj){zf:Array Oper}{rest:List Oper}{o:Oper}{a:Act}{Q:Exit->Act->Aj->Prop}(u:o.guard=none)(m x:Operand)(E:o.op=Op.lookup 230 m x true) (b k:Nat)(l:List AZ)(H:a.eval m=.map (some b))(J:Gd w b k l)(y:Int)(O:a.eval x=y)(T:Bj y)(V:Jb l y=none) (Z:wpList prog zf Q rest (a.put o.dst (.tuple #[.agg #[(),(),(),(),()],false])) w):wpList prog zf Q (o::rest) a w:=LW w u m x E b k l H J y O T (by rw[V];exact Z)
def QE(w:Aj){zf:Array Oper}{rest:List Oper}{o:Oper}{a:Act}{Q:Exit->Act->Aj->Prop}(T:o.guard=none)(m x:Operand)(V:o.op=Op.lookup 230 m x true) (b k:Nat)(l:List AZ)(Z:a.eval m=.map (some b))(aa:Gd w b k l)(y:Int)(ab:a.eval x=y)(ac:Bj y)(u E H J O:Int)(ad:Jb l y=some ⟨u,E,H,J,O⟩) (ae:wpList prog zf Q rest (a.put o.dst (.tuple #[.agg #[u,E,H,J,O],true])) w):wpList prog zf Q (o::rest) a w:=LW w T m x V b k l Z aa y ab ac (by rw[ad];exact ae)
def LD(w:Aj){zf:Array Oper}{rest:List Oper}{o:Oper}{a:Act}{Q:Exit->Act->Aj->Prop}(u:o.guard=none)(m x:Operand)(E:o.op=Op.lookup 174 m x false) (b k:Nat)(U:An)(H:a.eval m=.map (some b))(J:FN w b k U)(y:Int)(O:a.eval x=y)(T:Bj y) (V:wpList prog zf Q rest (a.put o.dst (Cg U y)) w):wpList prog zf Q (o::rest) a w:=by refine x5 u λaa Z=>?_;unfold Oper.wp;simp[execOp,E,H,O,J.look T,Result.andThen];exact Z _ _ V
def Iz(A:AD)(n c:Nat)(l:List AZ)(w:Aj)(h:Bx w A n l)(cH:n<=1000000000)(bj:∀x∈l,Bj x.st/\Bj x.an/\Bj x.aD):AC 58 #[.slice A n c] w (Wv (EV l) w):=by
 have bk:=zk h;have aR:=zk h.len;have bR:=zk bj;clear h bj;by_cases az:5000<n
 . have aS:decide ((5000:Int)<(n:Int))=true:=zt Ad;have bS:=zk az;clear az;go_enter func58,ntmps58;go_wp2;go_ret2;exact⟨0,3,rfl,⟨λh=>(by cases h),λh=>by have:=h.1;have:=bS.out;have:=aR.out;omega⟩,Ae.refl _⟩
 have aS:decide ((5000:Int)<(n:Int))=false:=zn Ad;have bn:=zk az;have aa:=FN.made w;have ae:=Gd.made (w.alloc (.map #[] 0));have aa:=aa.ext ((Ae.refl _).alloc (.map #[] 0));have br:Ae w ((w.alloc (.map #[] 0)).alloc (.map #[] 0)):=((Ae.refl _).alloc _).alloc _;generalize bT:(w.alloc (.map #[] 0)).alloc (.map #[] 0)=cI at *;rw[z3]at ae;have bt:=zk aa;have bu:=zk ae;have bU:=zk br;have aT:Hid (w≠w.heap.size+1):=zk (by omega);have bV:Hid (w.heap.size<=w.heap.size+1):=zk (by omega);clear aa ae br az;have bW:=@run_makeMap prog;go_enter func58,ntmps58;go_wp2;clear bT aS bW;generalize bX:w.heap.size+1=aA at *;clear bX;go_loopw[18](λi wr=>∃j:Nat,i=j/\j<=n/\Ae w wr/\FN wr w (2*j) (Ev (l.take j))/\Gd wr aA j (l.take j)/\∀k x,k<j->l[k]? =some x->Sr x/\Rb l k x=false/\J5 l k x=false)(λi _=>n-(intOf i).toNat);case atStart=>exact⟨0,rfl,zx _,bU.out,bt.out,bu.out,λk x aB=>by omega⟩
 case round=>
  obtain⟨j,rfl,cJ,aw,aa,ae,aU⟩:=hrel;have bY:=zk aw;have bt:=zk aa;have bu:=zk ae;have bw:=zk aU;by_cases bZ:j<n
  . obtain⟨cK,H,O,u,E,rs,rfl,aC,b0,b1,aD,aE,b2⟩:=(bk.out.ext aw).at_ bZ;have aF:=zk aC;have aG:=zk (AM aC);obtain⟨aV,aW,aX⟩:=bR.out _ (zm aC);dsimp only at aV aW aX;have aY:=zk aV;have aZ:=zk aW;have a1:=zk aX;have cL:(j:Int)<(n:Int):=Ad;have cM:(0:Int)<=(j:Int):=Ad;have aH:Ae wr (wr.alloc (.cells #[H,O,u,E,rs] 96)):=(Ae.refl wr).alloc _;have ag:=Aq.new wr 96 #[H,O,u,E,rs];generalize b3:wr.alloc (.cells #[H,O,u,E,rs] 96)=b4 at *;have d0:=ag.cell 0;have d1:=ag.cell 1;have d2:=ag.cell 2;have d3:=ag.cell 3;have d4:=ag.cell 4;have b5:=zk (aw.trans aH);have b6:=zk ag;have b7:=zk (aa.ext aH);have b8:=zk (ae.ext aH);clear aw aa ae aU aC aH ag aV aW aX;go_wp2_with fail
    refine(Acu H O u E rs b4).mono ?_;rintro e ao⟨aI,rfl,bx,ax⟩;have bz:=zk bx;have a5:=zk (b5.out.trans ax);have a6:=zk (b6.out.ext ax);have a7:=zk (b7.out.ext ax);have b9:=zk (b8.out.ext ax);clear bx ax b3 b0 b1 aD aE b2 d0 d1 d2 d3 d4;generalize wr=cN at *;by_cases ay:aI=0
    . subst ay;have cc:=zk (bz.out.1 rfl);go_wp2;go_cut[60](λs ce=>s=.bool (Rb l j ⟨H,O,u,E,rs⟩)/\Ae ao ce)
      case first=>
       have aD:=λW(J:Ae ao W)=>J.cell (a6.out.cell 2);have aE:=λW(J:Ae ao W)=>J.cell (a6.out.cell 3);have bA:=λW(J:Ae ao W)=>(a7.out.ext J).look aY.out;have bB:=λW(J:Ae ao W)=>(a7.out.ext J).look aZ.out;have af:Hid (Rb l j ⟨H,O,u,E,rs⟩=((decide (0<j)&&decide (u<=(opAt l (j-1)).st))||decide (0<Cg (Ev (l.take j)) u)||(decide (0<=E)&&decide (0<Cg (Ev (l.take j)) E)))):=zk rfl;generalize Cg (Ev (l.take j)) u=bC at *;generalize Cg (Ev (l.take j)) E=a2 at *;rcases xe j with rfl|t0;have d0:decide (0<0)=false:=rfl;obtain d2|d2:=R9 (0<bC)<;>obtain d3|d3:=R9 (0<=E)<;>obtain d4|d4:=R9 (0<a2)<;>(
        refine AL AJ ?_;(repeat first|apply Bg rfl (λW J=>Am) Am|apply AS rfl Am);refine AN λW J=>?_;have a8:=zk J;clear J aD aE bA bB;go_wp2_with fail
        go_meet;exact⟨by rw[af.out];simp[*],a8.out⟩)
       obtain⟨cO,cP,cQ,cf,cR,cS,a9,bD,cg,ab,Z,ac,ad⟩:=(bk.out.ext a5.out).at_ (k:=j-1) Ad;cases a9;have cT:IntKind.i64.wrap ((j:Int)-1)=((j-1:Nat):Int):=by rw[z5 _ Ad];omega
       have d0:decide (0<j)=true:=zt Ad;have cU:((j-1:Nat):Int)<(n:Int):=Ad;have cV:(0:Int)<=((j-1:Nat):Int):=Ad;have ba:=λW(J:Ae ao W)=>J.cell Z;rw[EO bD]at af;dsimp only at af;clear bD cg ab Z ac ad t0;obtain d1|d1:=R9 (u<=cf)<;>obtain d2|d2:=R9 (0<bC)<;>obtain d3|d3:=R9 (0<=E)<;>obtain d4|d4:=R9 (0<a2)<;>(
        refine AL AJ ?_;(repeat first|apply Bg rfl (λW J=>Am) Am|apply AS rfl Am);refine AN λW J=>?_;have a8:=zk J;clear J ba aD aE bA bB;go_wp2_with fail
        go_meet;exact⟨by rw[af.out];simp[*],a8.out⟩)
      case rest=>
       obtain⟨rfl,aq⟩:=hcut;generalize wc=w2 at aq⊢;have aJ:=zk (a5.out.trans aq);have ah:=zk (a6.out.ext aq);have bE:=zk (a7.out.ext aq);have aK:=zk (b9.out.ext aq);clear aq;cases aL:Rb l j ⟨H,O,u,E,rs⟩with
       |true=> have af:=zk aL;clear aL;go_wp2;go_ret2;exact⟨_,32,rfl,⟨λh=>(by cases h),λh=>by have:=(h.2 j _ aF.out).2.1;rw[af.out]at this;cases this⟩,aJ.out⟩
       |false=>
        have af:=zk aL;clear aL;have d0:=ah.out.cell 0;have d1:=ah.out.cell 1;have d2:=ah.out.cell 2;have d3:=ah.out.cell 3;have d4:=ah.out.cell 4;rcases au:Jb (l.take j) H with _|⟨ab,Z,ac,ad,aj⟩;focus have ak:Hid (J5 l j ⟨H,O,u,E,rs⟩=false):=zk (by unfold J5;simp only[au]);have bc:=zk au;have T:Ae w2 (w2.alloc (.cells #[(),(),(),(),()] 96)):=(Ae.refl _).alloc _;clear au;have cW:=d0;have cX:=d1;have cY:=d2;have cZ:=d3;have c0:=d4;have aM:=zk (aJ.out.trans T);have V:=ah.out.ext T;have bd:=zk V;have aN:=zk (bE.out.ext T);have bF:=zk (aK.out.ext T);have d0:=V.cell 0;have d1:=V.cell 1;have d2:=V.cell 2;have d3:=V.cell 3;have d4:=V.cell 4;clear T V
        rotate_left;focus
         have ak:Hid (J5 l j ⟨H,O,u,E,rs⟩=!Cw ⟨ab,Z,ac,ad,aj⟩ ⟨H,O,u,E,rs⟩):=zk (by unfold J5;simp only[au]);have bc:=zk au;have al:Ae w2 (w2.alloc (.cells #[ab,Z,ac,ad,aj] 96)):=(Ae.refl _).alloc _;have av:=Aq.new w2 96 #[ab,Z,ac,ad,aj];generalize ch:w2.alloc (.cells #[ab,Z,ac,ad,.int .i64 aj] 96)=ci at *;have cj:=av.cell 0;have cm:=al.cell d0;have cn:=av.cell 1;have co:=al.cell d1;have a9:=av.cell 2;have ba:=al.cell d2;have cp:=av.cell 3;have cq:=al.cell d3;have cr:=av.cell 4;have cs:=al.cell d4;have ct:=zk al;clear au al av;go_wp2_with(at_lookup;refine QE _ rfl (.tmp 63) (.tmp 65) rfl aA j (l.take j) rfl aK.out H rfl a1.out ab Z ac ad aj bc.out ?_)
         refine(Nc ab Z ac ad aj H O u E rs ci).mono ?_;rintro e c9⟨rfl,T⟩;have T:=ct.out.trans T;clear ch cj cn a9 cp cr cm co ba cq cs d0 d1 d2 d3 d4;rcases aO:Cw ⟨ab,Z,ac,ad,aj⟩ ⟨H,O,u,E,rs⟩with _|_
         . have ak:Hid (J5 l j ⟨H,O,u,E,rs⟩=true):=zk (by rw[ak.out,aO];rfl);have aM:=zk (aJ.out.trans T);clear aO T;go_wp2;go_ret2;exact⟨_,33,rfl,⟨λh=>(by cases h),λh=>by have:=(h.2 j _ aF.out).2.2;rw[ak.out]at this;cases this⟩,aM.out⟩
         have ak:Hid (J5 l j ⟨H,O,u,E,rs⟩=false):=zk (by rw[ak.out,aO];rfl);clear aO;have aM:=zk (aJ.out.trans T);have V:=ah.out.ext T;have bd:=zk V;have aN:=zk (bE.out.ext T);have bF:=zk (aK.out.ext T);have d0:=V.cell 0;have d1:=V.cell 1;have d2:=V.cell 2;have d3:=V.cell 3;have d4:=V.cell 4;clear T V
        all_goals
         have cu:=Aco (l.take j);have cv:(l.take j).length<=j:=by rw[ya];omega
         have cx:=LR (Ev (l.take j)) u;have bG:=LR (Ev (l.take j)++[u]) E;rw[zu,List.length_singleton]at bG;have cy:n<=5000:=by have:=bn.out;omega
         have bH:Hid (∀k x,k<j+1->l[k]? =some x->Sr x/\Rb l k x=false/\J5 l k x=false):=zk λk x aB be=>by
          by_cases e:k=j
          . subst e;rw[aF.out]at be;cases be;exact⟨cc.out,af.out,ak.out⟩
          . exact bw.out k x Ad be
         have v1:IntKind.i64.wrap (Cg (Ev (l.take j)) u+1)=Cg (Ev (l.take j)) u+1:=z5 _ Ad;have da:IntKind.i64.wrap (Cg (Ev (l.take j)++[u]) E+1)=Cg (Ev (l.take j)++[u]) E+1:=z5 _ Ad;have bI:=zk (X4 (l.take j) ⟨H,O,u,E,rs⟩);have bf:Hid (2*j<=1000000000/\2*j+1<=1000000000/\j<=1000000000):=zk Ad;clear cu cv cx bG cy;obtain t3|t3:=R9 (0<=E)<;>(
          go_wp2_with(first
           |(at_lookup;refine PA _ rfl (.tmp 63) (.tmp 65) rfl aA j (l.take j) rfl aK.out H rfl a1.out bc.out ?_)
           |(at_lookup;refine LD _ rfl (.tmp 77) (.tmp 79) rfl w _ _ rfl aN.out u rfl aY.out ?_)
           |(at_mapUpdate;refine OH _ rfl (.tmp 77) (.tmp 79) (.tmp 81) rfl w _ _ rfl aN.out bf.out.1 u _ rfl rfl rfl aY.out ?_;intro cz bJ aP;have cA:=zk bJ;have bK:=zk (bF.out.grown aP (yb aT.out));have cB:Hid (Ae w cz):=Ae.grown aM.out aP (λk e=>by cases e;exact zs _);have am:=bd.out.grown aP (λe=>aN.out.ai bd.out (by injection e with e;exact e.symm));have bL:=zk am;have d0:=am.cell 0;have d1:=am.cell 1;have d2:=am.cell 2;have d3:=am.cell 3;have d4:=am.cell 4;clear bJ aP am)
           |(at_mapUpdate;refine VA _ rfl (.tmp 82) (.tmp 84) (.tmp 85) rfl aA _ _ ⟨H,O,u,E,rs⟩ rfl bK.out bf.out.2.2 rfl rfl a1.out ?_;intro cC bM aQ;have bN:=zk bM;have bh:=zk (cA.out.grown aQ aT.out);have bO:Hid (Ae w cC):=Ae.grown cB.out aQ (λk e=>by cases e;exact bV.out);have an:=bL.out.grown aQ (λe=>bK.out.ai bL.out (by injection e with e;exact e.symm));have dc:=zk an;have d0:=an.cell 0;have d1:=an.cell 1;have d2:=an.cell 2;have d3:=an.cell 3;have d4:=an.cell 4;clear bM aQ an)
           |(at_lookup;refine LD _ rfl (.tmp 89) (.tmp 91) rfl w _ _ rfl bh.out E rfl aZ.out ?_)
           |(at_mapUpdate;refine OH _ rfl (.tmp 89) (.tmp 91) (.tmp 93) rfl w _ _ rfl bh.out bf.out.2.1 E _ rfl rfl rfl aZ.out ?_;intro cD bP bi;have cE:=zk bP;have cF:=zk (bN.out.grown bi (yb aT.out));have cG:Hid (Ae w cD):=Ae.grown bO.out bi (λk e=>by cases e;exact zs _);clear bP bi))
          go_roundw)
         case rel=>exact⟨j+1,by go_num,Ad,cG.out,(by rw[aG.out,bI.out,zq (of_decide_eq_true t3)];exact cE.out.mono Ad),(by rw[aG.out];exact cF.out),bH.out⟩
         case measure=>simp[intOf];omega
         case rel=>exact⟨j+1,by go_num,Ad,bO.out,(by rw[aG.out,bI.out,zo (of_decide_eq_false t3),yg];exact bh.out.mono Ad),(by rw[aG.out];exact bN.out),bH.out⟩
         case measure=>simp[intOf];omega
    have aS:decide (aI=0)=false:=zn ay;have dd:(aI==0)=false:=by simpa using ay
    have bQ:=zk ay;clear ay;go_wp2;go_ret2;exact⟨_,aI,rfl,⟨λh=>absurd h bQ.out,λh=>absurd (bz.out.2 (h.2 j _ aF.out).1) bQ.out⟩,a5.out⟩
  obtain rfl:n=j:=Ad;clear aw aa ae aU;go_wp2;go_ret2;exact⟨_,0,rfl,⟨λ_=>⟨by have:=aR.out;have:=bn.out;omega,λk x aB=>bw.out k x (by have:=(zl.1 aB).1;have:=aR.out;omega) aB⟩,λ_=>rfl⟩,bY.out⟩
end
structure Dt(w:Aj)(S:Nat)(K zj:Int)(A:AD)(n:Nat)(zc:List Ba)(B:AD)(m:Nat)(l:List AZ):Prop where
 cb:Bi w A n zc
 bG:Bx w B m l
 ca:n<=1000000000
 hm:m<=4
 b6:H7 S K zj zc
 b9:EV l
section
variable{w w':World}{S n m:Nat}{K zj:Int}{A B:Option Addr}{zc:List Ba}{l:List AZ}
theorem Dt.ext(h:Dt w S K zj A n zc B m l)(u:Ae w w'):Dt w' S K zj A n zc B m l:=⟨h.cb.ext u,h.bG.ext u,h.ca,h.hm,h.b6,h.b9⟩
theorem Dt.bc(h:Dt w S K zj A n zc B m l):1<=S/\S<=32:=by have:=h.b6.1;omega
theorem Dt.dn(h:Dt w S K zj A n zc B m l):1<=K/\K<=64:=h.b6.2.1
theorem Dt.len(h:Dt w S K zj A n zc B m l):l.length=m:=h.bG.len
theorem ZK{S K zj:Int}{zc:List Ba}(h:H7 S K zj zc):∀r∈zc,0<=r.ax/\r.ax<S:=λr u=>by obtain⟨i,hi⟩:=z0 u;have:=(h.2.2.2 i (zl.1 hi).1 r hi).1.2;unfold CX at this;simpa using this
theorem Dt.ax(h:Dt w S K zj A n zc B m l):∀r∈zc,0<=r.ax/\r.ax<S:=ZK h.b6
theorem EV.ok(h:EV l){j:Nat}{x:AZ}(u:l[j]? =some x):Sr x:=(h.2 j x u).1
theorem Sr.aN{x:AZ}(h:Sr x):Bj x.st/\Bj x.an/\Bj x.aD:=by obtain⟨E,H,J,u⟩:=h;unfold Bj;rcases u with u|u<;>omega
theorem EV.aN(h:EV l):∀x∈l,Bj x.st/\Bj x.an/\Bj x.aD:=λ_ u=>let⟨_,E⟩:=z0 u;(h.ok E).aN
end
def AdF(w:Aj)(g:Nat)(a b:Aw):Aj:=(w.setCell g a).setCell ⟨g,1,none⟩ b
def Jh{w:Aj}{g:Nat}{t:TypeId}{a b a' b':Aw}(h:Aq w g t #[a',b']):Aq (AdF w g a b) g t #[a,b]:=(h.ad 0 a).ad 1 b
def I8{w W:Aj}{g:Nat}(h:Ae w W)(u:w<=g)(a b:Aw):Ae w (AdF W g a b):=(h.setCell (p:=g) u a).setCell (p:=⟨g,1,none⟩) u b
def KF(S:Nat)(K zj:Int)(A:AD)(n c:Nat)(zc:List Ba)(B:AD)(m d:Nat)(l:List AZ)(w:Aj)(h:Dt w S K zj A n zc B m l):AC 34 #[.agg #[S,K,zj,.slice A n c],.slice B m d] w λe w'=>e=.returned (.agg #[m,S])/\Ae w w':=by
 have an:=h.bc;have ao:=h.dn;have U:Ae w ((w.alloc (.cells #[S,K,zj,.slice A n c] 24)).alloc (.cells #[(),()] 67)):=((Ae.refl _).alloc _).alloc _;have u:=(Aq.new w 24 #[S,K,zj,.slice A n c]).alloc (.cells #[(),()] 67);have V:=Aq.new (w.alloc (.cells #[S,K,zj,.slice A n c] 24)) 67 #[(),()];rw[z3]at V;generalize ab:(w.alloc (.cells #[S,K,zj,.slice A n c] 24)).alloc (.cells #[(),()] 67)=ac at *;have ad:=u.cell 0;have ae:=u.cell 1;have af:=u.cell 2;have ag:=u.cell 3;have H:=h.ext U;have ah:=U;have T:=u;have aj:=V;clear h U u V;go_enter func34,ntmps34;go_wp2_with fail
 refine(Fq S K zj A n c zc ac H.cb H.ca Ad Ad).mono ?_;rintro e ak⟨aq,al,rfl,J,Z⟩;obtain rfl:al=0:=J.2 H.b6;clear J ab;go_wp2_with fail
 refine(Iz B m d l ak (H.bG.ext Z) (by have:=H.hm;omega) H.b9.aN).mono ?_;rintro e w2⟨au,am,rfl,J,aa⟩;obtain rfl:am=0:=J.2 H.b9;have E:=Z.trans aa;have ad:=E.cell (T.cell 0);have ae:=E.cell (T.cell 1);have af:=E.cell (T.cell 2);have ag:=E.cell (T.cell 3);have O:=aj.ext E;have d0:=O.cell 0;have d1:=O.cell 1;have f0:=O.frozen 0;have f1:=O.frozen 1;clear aa J;go_wp2;try rw[x8]
 refine yw (xq rfl _ _ (w+1) 67 #[m,S] (0,0) _ rfl (Jh O) underlying67 rfl AJ) rfl ?_;exact⟨rfl,I8 (ah.trans E) Ad _ _⟩
def Ob(x s:Int)(g:Nat)(w:Aj)(hb:Aq w g 3 #[s])(u:0<=s/\s<=1000000/\0<=x/\x<=1000000):AC 209 #[x,.pointer g] w λe w'=>e=.returned (.tuple #[])/\w'=w.setCell g (.int .i64 (s+x)):=by have E:=hb.cell 0;have f0:=hb.frozen 0;have v0:IntKind.i64.wrap (s+x)=s+x:=z5 _ Ad;clear hb;go_enter func209,ntmps209;go_wp2;go_end0;exact⟨rfl,rfl⟩
def Aa1(x:Int)(v:Aw)(_:Aj):Prop:=v=x
def Ahw(k:Nat)(v:Aw)(_:Aj):Prop:=∃A c,v=.slice A k c
def Ajf(u v:Aw)(_:Aj):Prop:=v=u
def Ai4(lo:Nat)(v:Aw)(W:Aj):Prop:=∃g:Nat,v=.pointer g/\lo<=g/\Aq W g 302 #[(),(),(),()]
def Ai7(a0 u a2 a3:Int)(j:Nat)(s:Int):Prop:=(j=0/\s=0)\/(j=1/\s=a0)\/(j=2/\s=a0+u)\/(j=3/\s=a0+u+a2)\/(j=4/\s=a0+u+a2+a3)
def S6(w:Aj)(g:Nat)(a b c d:Aw):Aj:=(((w.setCell g a).setCell ⟨g,1,none⟩ b).setCell ⟨g,2,none⟩ c).setCell ⟨g,3,none⟩ d
def Acv{w:Aj}{g:Nat}{t:TypeId}{a b c d a' b' c' d':Aw}(h:Aq w g t #[a',b',c',d']):Aq (S6 w g a b c d) g t #[a,b,c,d]:=(((h.ad 0 a).ad 1 b).ad 2 c).ad 3 d
def Abh{w W:Aj}{g:Nat}(h:Ae w W)(u:w<=g)(a b c d:Aw):Ae w (S6 W g a b c d):=(((h.setCell (p:=g) u a).setCell (p:=⟨g,1,none⟩) u b).setCell (p:=⟨g,2,none⟩) u c).setCell (p:=⟨g,3,none⟩) u d
def IQ(w:Aj)(g i:Nat)(v:Aw):w.grownBy (w.setCell ⟨g,i,none⟩ v) (some g):=⟨rfl,rfl,rfl,by rw[xf];exact zs _,λk _ u=>yt w _ v k (λe=>u (by rw[e]))⟩
def Nt{l:List AZ}(E:l.length<=4):(Cc l).length<=16:=by
 unfold Cc;have u:((List.range l.length).flatMap λi=>((List.range l.length).filter λj=>Cw (opAt l i) (opAt l j)).map λj=>(i,j)).length<=(List.range l.length).length*4:=Gt λx _=>by rw[z2];have:=yl (λj=>Cw (opAt l x) (opAt l j)) (List.range l.length);rw[y9]at this;omega
 rw[y9]at u;omega
def AdX(l:List AZ)(m:Nat):(DX l m).length<=m:=by unfold DX;rw[z2];have:=yl (λi=>(opAt l i).an==-1) (List.range m);rw[y9]at this;exact this
def AgF(S:Nat)(B:AD)(m d:Nat)(l:List AZ)(w:Aj)(h:Bx w B m l)(ab:m<=4)(ac:1<=S/\S<=32)(aE:EV l):AC 133 #[.agg #[m,S],.slice B m d] w λe w'=>∃v:Int,e=.returned v/\(1<=v/\v<=500000)/\Ae w w':=by
 have aQ:=h.len;have aR:=Nt (l:=l) Ad;have bA:=AdX l m;have ae:Ae w (w.alloc (.cells #[m,S] 67)):=(Ae.refl _).alloc _;have hb:=Aq.new w 67 #[m,S];generalize aS:w.alloc (.cells #[m,S] 67)=aT at *;have ax:=h.ext ae;have aU:=ae;have ay:=hb;have aV:=λW=>XV m S W ab ac;have aW:=λW=>Xk m S W ab ac;have aX:=λW=>AaZ m S (Cc l).length W ab ac Ad;have aY:=λW=>Abz m S (m-(DX l m).length) W ab ac Ad;have az:=NT ab;have aZ:=AaI ac.2;have aF:m+2*m*Em m<=60:=by have:2*m*Em m<=8*6:=ym Ad az;omega
 have a1:(Cc l).length*Em m<=16*6:=ym aR az;have a5:(m+1)*(1+Em S)<=5*513:=ym Ad Ad;have a6:(m-(DX l m).length)*(1+m*S)+(m-(m-(DX l m).length))*2*(m*S)<=4*129+8*128:=by have E:m*S<=4*32:=ym ab ac.2;have V:(m-(DX l m).length)*(1+m*S)<=4*129:=ym Ad Ad;have T:(m-(m-(DX l m).length))*2*(m*S)<=8*128:=ym Ad E;omega
 have a7:(m+2*m*Em m<=60/\(Cc l).length*Em m<=96/\1+(m+1)*(1+Em S)<=2600/\(m-(DX l m).length)*(1+m*S)+(m-(m-(DX l m).length))*2*(m*S)<=2000):=⟨aF,Ad,Ad,Ad⟩;have a8:(1<=1+(m+1)*(1+Em S)):=Ad;clear aF a1 a5 a6 az aZ;generalize hA0:m+2*m*Em m=a0 at *;generalize hA1:(Cc l).length*Em m=J at *;generalize hA2:1+(m+1)*(1+Em S)=a2 at *;generalize hA3:(m-(DX l m).length)*(1+m*S)+(m-(m-(DX l m).length))*2*(m*S)=a3 at *;generalize aG:(DX l m).length=af at *;generalize aH:(Cc l).length=aA at *;have a9:=zk aG;have ba:=zk aQ;have bc:=zk aH;have bB:IntKind.i64.wrap ((m:Int)-(af:Int))=((m-af:Nat):Int):=by rw[z5 _ Ad];omega
 have ak:=hb.cell 0;have al:=hb.cell 1;clear h ae hb hA0 hA1 hA2 hA3 aG aH;go_enter func133,ntmps133;go_wp2_with fail
 refine(Iz B m d l aT ax Ad aE.aN).mono ?_;rintro e bd⟨bC,be,rfl,aI,aB⟩;obtain rfl:be=0:=aI.2 aE;have ak:=aB.cell (ay.cell 0);have al:=aB.cell (ay.cell 1);clear aI aS;go_wp2_with fail
 refine(LV m S bd ab ac).mono ?_;rintro e w2⟨rfl,aJ⟩;have am:=aB.trans aJ;have an:=ay.ext am;have ak:=an.cell 0;have al:=an.cell 1;clear aJ;go_wp2;have ak:=λW(u:Ae w2 W)=>u.cell (an.cell 0);have al:=λW(u:Ae w2 W)=>u.cell (an.cell 1);refine Ct [(35,Ahw aA),(36,Aa1 (aA:Int)),(37,Aa1 (J:Int)),(44,Ahw af),(45,Aa1 (af:Int)),(46,Aa1 ((m-af:Nat):Int)),(47,Aa1 (a3:Int)),(48,Ajf (.agg #[a0,J,a2,a3])),(7,Ai4 w2)] (n:=19) AJ rfl rfl (.cons (λ_ _ _ h _=>h) (.cons (λ_ _ _ h _=>h) (.cons (λ_ _ _ h _=>h) (.cons (λ_ _ _ h _=>h) (.cons (λ_ _ _ h _=>h) (.cons (λ_ _ _ h _=>h) (.cons (λ_ _ _ h _=>h) (.cons (λ_ _ _ h _=>h) (.cons (λ_ _ _⟨g,E,V,T⟩ae=>⟨g,E,V,T.ext ae⟩) .nil))))))))) ?_;simp only[List.take_succ_cons,List.take_zero];(repeat apply Ep rfl rfl (λW u=>Am) Am);apply KT rfl (λW u=>aV W) rfl (λW u=>by go_simp) Am;(repeat apply Ep rfl rfl (λW u=>Am) Am);refine Di 35 _ (by rfl) rfl rfl (by rfl) (λW σ u H=>?_) Am ?_;simp only[AQ];exact .inr ⟨_,_,by go_simp,(Nd B m d l W (ax.ext (am.trans u)) Ad).mono λe w'⟨A,k,c,E,V,T⟩=>⟨_,E,T,A,c,by have:=V.1;rw[BZ Ig,bc.out]at this;rw[show k=aA by omega]⟩⟩;refine Di 36 _ (by rfl) rfl rfl (by rfl) (λW σ u H=>?_) Am ?_;obtain⟨A',c',E⟩:=H 35 _ rfl AJ;simp only[AQ,E];exact .inl ⟨_,_,by go_simp,Ae.refl _,rfl⟩;refine Di 37 _ (by rfl) rfl rfl (by rfl) (λW σ u H=>?_) Am ?_;have E:σ 36=_:=H 36 _ rfl AJ;simp only[AQ,E];exact .inr ⟨_,_,by go_simp,(aX W).mono λe w'⟨T,ad⟩=>⟨_,T,ad,rfl⟩⟩;(repeat apply Ep rfl rfl (λW u=>Am) Am);apply KT rfl (λW u=>aW W) rfl (λW u=>by go_simp) Am;(repeat apply Ep rfl rfl (λW u=>Am) Am);refine Di 44 _ (by rfl) rfl rfl (by rfl) (λW σ u H=>?_) Am ?_;simp only[AQ];exact .inr ⟨_,_,by go_simp,(V4 B m d l W (ax.ext (am.trans u)) Ad).mono λe w'⟨v,E,V,T⟩=>(by obtain⟨A',bf,c',rfl⟩:=V.form;have ad:bf=_:=V.aL;rw[ba.out,a9.out]at ad;exact⟨_,E,T,A',c',by rw[ad]⟩)⟩;refine Di 45 _ (by rfl) rfl rfl (by rfl) (λW σ u H=>?_) Am ?_;obtain⟨A',c',E⟩:=H 44 _ rfl AJ;simp only[AQ,E];exact .inl ⟨_,_,by go_simp,Ae.refl _,rfl⟩;refine Di 46 _ (by rfl) rfl rfl (by rfl) (λW σ u H=>?_) Am ?_;have E:σ 45=_:=H 45 _ rfl AJ;simp only[AQ,E];exact .inl ⟨_,_,by go_simp,Ae.refl _,rfl⟩;refine Di 47 _ (by rfl) rfl rfl (by rfl) (λW σ u H=>?_) Am ?_;have E:σ 46=_:=H 46 _ rfl AJ;simp only[AQ,E];exact .inr ⟨_,_,by go_simp,(aY W).mono λe w'⟨T,ad⟩=>⟨_,T,ad,rfl⟩⟩;refine Di 48 _ (by rfl) rfl rfl (by rfl) (λW σ u H=>?_) Am ?_;have E:σ 37=_:=H 37 _ rfl AJ;have V:σ 47=_:=H 47 _ rfl AJ;simp only[AQ,E,V];exact .inl ⟨_,_,by go_simp,Ae.refl _,rfl⟩;refine Di 7 _ (by rfl) rfl rfl (by rfl) (λW σ u H=>?_) Am ?_
 . simp only[AQ];exact .inl ⟨_,_,by go_simp,by grind,W,rfl,u.size,Aq.new W _ _⟩
 refine AN λW σ bh H=>?_;obtain⟨g,aK,bi,U⟩:=H 7 _ rfl;have aL:σ 48=_:=H 48 _ rfl;simp only[AQ,aK,aL];have f0:=U.frozen 0;have f1:=U.frozen 1;have f2:=U.frozen 2;have f3:=U.frozen 3;have d0:=U.cell 0;have d1:=U.cell 1;have d2:=U.cell 2;have d3:=U.cell 3;obtain⟨O,ao⟩:∃x,S6 W g a0 J a2 a3=x:=⟨_,rfl⟩;have aC:Aq O g 302 #[a0,J,a2,a3]:=ao▸Acv U;have aq:Ae w2 O:=ao▸Abh bh bi _ _ _ _;unfold S6 at ao;have aM:Ae O (O.alloc (.cells #[()] 3)):=(Ae.refl _).alloc _;have au:=Aq.new O 3 #[()];have aN:=aC.alloc (.cells #[()] 3);generalize bj:O.alloc (.cells #[()] 3)=aD at *;have f8:=au.frozen 0;have d8:=au.cell 0;have aO:=au.ad 0 ();have ag:=aN.grown (IQ aD O 0 ()) (λe=>by have:=aC.lt;have e:g=O:=xg e;omega);have aP:Ae w2 (aD.setCell O ()):=(aq.trans aM).setCell (p:=O) aq.size _;generalize bk:aD.setCell O ()=av at *;have bn:=ag.cell 0;have br:=ag.cell 1;have bt:=ag.cell 2;have bu:=ag.cell 3;have bw:=aP;have bx:=aO;have aw:(w2.heap.size<=O.heap.size):=aq.size;have bD:∀w,(Instr.index 302 (.agg #[a0,J,a2,a3]) ()).run prog w=.ok a0 w:=λ_=>AJ;have bE:∀w,(Instr.index 302 (.agg #[a0,J,a2,a3]) AF).run prog w=.ok J w:=λ_=>AJ;have bF:∀w,(Instr.index 302 (.agg #[a0,J,a2,a3]) (.int .i64 2)).run prog w=.ok a2 w:=λ_=>AJ;have bG:∀w,(Instr.index 302 (.agg #[a0,J,a2,a3]) (.int .i64 3)).run prog w=.ok a3 w:=λ_=>AJ;clear H aK aL U ak al aC aq aM au aN aO ag aP;go_wp2;clear bn br bt bu d0 d1 d2 d3 f0 f1 f2 f3 f8 d8 ao bj bk;generalize O=Z at *;go_loopw[51](λi wr=>∃(j:Nat)(s:Int),i=j/\Ai7 a0 J a2 a3 j s/\Aq wr Z 3 #[s]/\Ae w2 wr)(λi _=>4-(intOf i).toNat);case atStart=>exact⟨0,0,rfl,.inl ⟨rfl,rfl⟩,bx,bw⟩
 case round=>
  obtain⟨j,s,rfl,bz,aa,ah⟩:=hrel;have aj:=a7;rcases bz with⟨rfl,rfl⟩|⟨rfl,rfl⟩|⟨rfl,rfl⟩|⟨rfl,rfl⟩|⟨rfl,rfl⟩
  . skip;go_wp2_with fail
    refine(Ob (a0:Int) 0 Z wr aa (by have:=aj;omega)).mono ?_;rintro e av⟨rfl,rfl⟩;go_wp2;go_roundw;case rel=>exact⟨1,a0,by go_num,.inr (.inl ⟨rfl,rfl⟩),aa.ad 0 _,ah.setCell (p:=Z) aw _⟩
    case measure=>simp[intOf]
  . skip;go_wp2_with fail
    refine(Ob (J:Int) a0 Z wr aa (by have:=aj;omega)).mono ?_;rintro e av⟨rfl,rfl⟩;go_wp2;go_roundw;case rel=>exact⟨2,a0+J,by go_num,.inr (.inr (.inl ⟨rfl,rfl⟩)),aa.ad 0 _,ah.setCell (p:=Z) aw _⟩
    case measure=>simp[intOf]
  . skip;go_wp2_with fail
    refine(Ob (a2:Int) (a0+J) Z wr aa (by have:=aj;omega)).mono ?_;rintro e av⟨rfl,rfl⟩;go_wp2;go_roundw;case rel=>exact⟨3,a0+J+a2,by go_num,.inr (.inr (.inr (.inl ⟨rfl,rfl⟩))),aa.ad 0 _,ah.setCell (p:=Z) aw _⟩
    case measure=>simp[intOf]
  . skip;go_wp2_with fail
    refine(Ob (a3:Int) (a0+J+a2) Z wr aa (by have:=aj;omega)).mono ?_;rintro e av⟨rfl,rfl⟩;go_wp2;go_roundw;case rel=>exact⟨4,a0+J+a2+a3,by go_num,.inr (.inr (.inr (.inr ⟨rfl,rfl⟩))),aa.ad 0 _,ah.setCell (p:=Z) aw _⟩
    case measure=>simp[intOf]
  . have bH:=aa.cell 0;skip;go_wp2;go_ret;exact⟨_,rfl,by have:=aj;have:=a8;omega,aU.trans (am.trans ah)⟩
def UT (S : Nat) (B : AD) (m d : Nat) (l : List AZ) (w : Aj) (h : Bx w B m l) (u : m ≤ 4) (E : 1 ≤ S ∧ S ≤ 32) (U : EV l) :
    AC 59 #[.agg #[m, S], .slice B m d] w fun e w' => e = .returned () ∧ Ae w w' := by
  have H : Ae w (w.alloc (.cells #[m, S] 67)) := (Ae.refl _).alloc _
  have hb := Aq.new w 67 #[m, S]
  generalize V : w.alloc (.cells #[m, S] 67) = Z at *
  have aa := hb.cell 0
  have ab := hb.cell 1
  have ac := h.ext H
  have ad := H
  have O := hb
  have ae := FE u E.2
  clear h H hb
  go_enter func59, ntmps59
  go_wp2_with fail
  refine (AgF S B m d l Z ac u E U).mono ?_
  rintro e af ⟨v, rfl, ⟨ag, ah⟩, J⟩
  have d0 : (v == 0) = false := by have : v ≠ 0 := Ad
                                   simpa using this
  have d1 : decide ((500000 : Int) < v) = false := zn Ad
  have aa := J.cell (O.cell 0)
  have ab := J.cell (O.cell 1)
  clear V ag ah
  go_wp2_with fail
  refine (LZ m S af u E).mono ?_
  rintro e w2 ⟨rfl, T⟩
  have aj := J.trans T
  have d2 : decide ((900 : Int) < ((BJ m S : Nat) : Int)) = false := zn (by have := ae; omega)
  clear T
  go_wp2
  go_ret
  exact ⟨rfl, ad.trans aj⟩
def Aip(m S:Int)(P:Prop)(w:Aj)(e:Bz)(w':Aj):Prop:=∃(v:Aw)(u:Int),e=.returned (.tuple #[v,u])/\(u=0↔P)/\(∃a b:Int,v=.agg #[a,b]/\(P->a=m/\b=S))/\Ae w w'
def UP(S K zj:Int)(A:AD)(n c:Nat)(zc:List Ba)(B:AD)(m d:Nat)(l:List AZ)(w:Aj)(h:Bi w A n zc)(an:Bx w B m l)(ao:n<=1000000000)(aq:m<=4)(aN:Bj S)(aO:Bj K)(aP:∀x∈l,Bj x.st/\Bj x.an/\Bj x.aD):AC 18 #[.agg #[S,K,zj,.slice A n c],.slice B m d] w (Aip m S (H7 S K zj zc/\EV l) w):=by
 have aa:Ae w ((w.alloc (.cells #[S,K,zj,.slice A n c] 24)).alloc (.cells #[(),()] 67)):=((Ae.refl _).alloc _).alloc _;have J:=(Aq.new w 24 #[S,K,zj,.slice A n c]).alloc (.cells #[(),()] 67);have ag:=Aq.new (w.alloc (.cells #[S,K,zj,.slice A n c] 24)) 67 #[(),()];rw[z3]at ag;generalize aQ:(w.alloc (.cells #[S,K,zj,.slice A n c] 24)).alloc (.cells #[(),()] 67)=au at *;have av:=J.cell 0;have aw:=J.cell 1;have ax:=J.cell 2;have ay:=J.cell 3;have az:=h.ext aa;have aA:=an.ext aa;have ab:=aa;have ac:=J;have ah:=ag;clear h aa J ag;go_enter func18,ntmps18;go_wp2_with fail
 refine(Fq S K zj A n c zc au az ao aN aO).mono ?_;rintro e aR⟨aV,aB,rfl,aC,aD⟩;have aj:=zk aC;clear aC aQ;go_wp2_with fail
 refine(Iz B m d l aR (aA.ext aD) Ad aP).mono ?_;rintro e w2⟨aW,aE,rfl,aF,aG⟩;have ak:=zk aF;have u:=aD.trans aG;have av:=u.cell (ac.cell 0);have aw:=u.cell (ac.cell 1);have ax:=u.cell (ac.cell 2);have ay:=u.cell (ac.cell 3);have O:=ah.ext u;have d0:=O.cell 0;have d1:=O.cell 1;have f0:=O.frozen 0;have f1:=O.frozen 1;clear aG aF;by_cases H:aB=0;subst H;by_cases H:aE=0
 . subst H;have ad:=aj.1 rfl;have al:=ak.1 rfl;obtain⟨E,rfl⟩:∃E:Nat,S=(E:Int):=⟨S.toNat,by have:=ad.1;omega⟩;have aH:(Dt au E K zj A n zc B m l):=⟨az,aA,ao,aq,ad,al⟩;have aI:(H7 (E:Int) K zj zc/\EV l):=⟨ad,al⟩;have d5:decide ((64:Int)<(m:Int))=false:=zn Ad;clear ad al;go_wp2_with fail
   refine(KF E K zj A n c zc B m d l w2 (aH.ext u)).mono ?_;rintro e T⟨rfl,am⟩;have aJ:Ae T (T.alloc (.cells #[m,E] 67)):=(Ae.refl _).alloc _;have ae:=Aq.new T 67 #[m,E];generalize aX:T.alloc (.cells #[m,E] 67)=U at *;have aK:=u.trans (am.trans aJ);have aL:=ae;have V:=ah.ext aK;have aY:=ae.cell 0;have aZ:=ae.cell 1;have a1:=V.cell 0;have a5:=V.cell 1;have a6:=V.frozen 0;have a7:=V.frozen 1;have aS:w.heap.size<=w.heap.size+1:=by omega
   have a8:T.heap.size≠w.heap.size+1:=by have:=(ab.trans u).size;have:=ah.lt;have:=u.size;have:=am.size;omega
   have aT:Ae w U:=ab.trans aK;clear am aJ ae av aw ax ay d0 d1 f0 f1;go_wp2;have aM:Ae w U.drew:=aT.drew;go_region_law((go_simp;go_at_call 59;(refine(UT E B m d l _ (an.ext aM) aq aH.bc aI.2).mono ?_);rintro e a9⟨rfl,af⟩;have u0:=af.cell (show U.drew.cell? _=_ from aL.cell 0);have u1:=af.cell (show U.drew.cell? _=_ from aL.cell 1);have Z:=Aq.ext (w:=U.drew) V af;have v0:=Z.cell 0;have v1:=Z.cell 1;have ba:=Z.frozen 0;have bc:=Z.frozen 1;skip))
   all_goals
    go_wp2;try rw[x8]
    refine yw (CS rfl _ _ (w+1) 67 #[m,E] (0,0) _ rfl (Jh Z) underlying67 rfl AJ) rfl ?_;exact⟨_,0,rfl,⟨λ_=>aI,λ_=>rfl⟩,⟨_,_,rfl,λ_=>⟨rfl,rfl⟩⟩,I8 (aM.trans af) aS _ _⟩
 . have aU:(aE !=0)=true:=by simpa using H
   skip;go_wp2;try rw[x8]
   refine yw (CS rfl _ _ (w+1) 67 #[(),()] (0,0) _ rfl (Jh O) underlying67 rfl AJ) rfl ?_;exact⟨_,2,rfl,⟨λh=>(by cases h),λh=>absurd (ak.2 h.2) H⟩,⟨0,0,rfl,λh=>absurd (ak.2 h.2) H⟩,I8 (ab.trans u) Ad _ _⟩
 have aU:(aB !=0)=true:=by simpa using H
 skip;go_wp2;try rw[x8]
 refine yw (CS rfl _ _ (w+1) 67 #[(),()] (0,0) _ rfl (Jh O) underlying67 rfl AJ) rfl ?_;exact⟨_,2,rfl,⟨λh=>(by cases h),λh=>absurd (aj.2 h.1) H⟩,⟨0,0,rfl,λh=>absurd (aj.2 h.1) H⟩,I8 (ab.trans u) Ad _ _⟩
def AhA(n S a b:Nat)(p:Addr)(w:World)(u:n<=4)(E:1<=S/\S<=32)(O:a<n)(hb:b<n)(H:w.cell? p=some (.int .i64 (n:Int)))(J:w.cell? ⟨p.block,p.off+1,none⟩=some (.int .i64 (S:Int))):Calls prog 134 #[.int .i64 1,a,b,.pointer (some p)] w λe w'=>e=.returned (Cx n a b)/\Ae w w':=by have:=Pc n S a b 1 p w u E Ad (by unfold Cj;simp;omega) (by unfold Cj;simp;omega) H J;rwa[JD]at this
def Ahn(n S a:Nat)(p:Addr)(w:World)(u:n<=4)(E:1<=S/\S<=32)(O:a<n)(H:w.cell? p=some (.int .i64 (n:Int)))(J:w.cell? ⟨p.block,p.off+1,none⟩=some (.int .i64 (S:Int))):Calls prog 134 #[.int .i64 2,a,(),.pointer (some p)] w λe w'=>e=.returned (Er n a)/\Ae w w':=by have:=Pc n S a 0 2 p w u E Ad (by unfold Cj;simp;omega) (by unfold Cj;simp) H J;rwa[UY]at this
def Aa6(n S a b:Nat)(p:Addr)(w:World)(u:n<=4)(E:1<=S/\S<=32)(O:a<=n)(hb:b<S)(H:w.cell? p=some (.int .i64 (n:Int)))(J:w.cell? ⟨p.block,p.off+1,none⟩=some (.int .i64 (S:Int))):Calls prog 134 #[.int .i64 3,a,b,.pointer (some p)] w λe w'=>e=.returned (Dd n S a b)/\Ae w w':=by have:=Pc n S a b 3 p w u E Ad (by unfold Cj;simp;omega) (by unfold Cj;simp;omega) H J;rwa[RH]at this
def Agn(n S a b:Nat)(p:Addr)(w:World)(u:n<=4)(E:1<=S/\S<=32)(H:a<n)(hb:b<S)(J:w.cell? p=some (.int .i64 (n:Int)))(O:w.cell? ⟨p.block,p.off+1,none⟩=some (.int .i64 (S:Int))):AC 134 #[.int .i64 3,.int .i64 ((a:Int)+1),b,.pointer (some p)] w λe w'=>e=.returned (Dd n S (a+1) b)/\Ae w w':=Aa6 n S (a+1) b p w u E H hb J O
def RQ(zc:List Ba)(n S:Nat)(x:AZ)(i k y:Nat):AT:=(List.range y).flatMap λb=>Ic zc n S x i k b
def Up(zc:List Ba)(n S:Nat)(x:AZ)(i z:Nat):AT:=(List.range z).flatMap λk=>RQ zc n S x i k S
def Wc(zc:List Ba)(l:List AZ)(S z:Nat):AT:=(List.range z).flatMap λi=>Od zc l.length S (opAt l i) i
def Adw(zc:List Ba)(n S:Nat)(x:AZ)(i k y:Nat):RQ zc n S x i k (y+1)=RQ zc n S x i k y++Ic zc n S x i k y:=by unfold RQ;rw[xi,y4];simp
def Aep(zc:List Ba)(n S:Nat)(x:AZ)(i z:Nat):Up zc n S x i (z+1)=Up zc n S x i z++RQ zc n S x i z S:=by unfold Up;rw[xi,y4];simp
def AeI(zc:List Ba)(l:List AZ)(S z:Nat):Wc zc l S (z+1)=Wc zc l S z++((if(opAt l z).an=-1 then[]else[[Er l.length z]])++Up zc l.length S (opAt l z) z l.length):=by unfold Wc;rw[xi,y4];simp[Od,Up,RQ]
def XF{zc:List Ba}{n S:Nat}{x:AZ}{i k b y:Nat}(h:Dq zc x b=some ((y:Nat):Int)):Ic zc n S x i k b=[-Cx n i k,-Er n i,-Dd n S k b,Dd n S (k+1) y]::if x.an=-1 then[[-Cx n i k,Er n i,-Dd n S k b,Dd n S (k+1) b]]else[]:=by unfold Ic;rw[h];simp
def Yx{zc:List Ba}{n S:Nat}{x:AZ}{i k b:Nat}(h:Dq zc x b=none):Ic zc n S x i k b=[-Cx n i k,-Er n i,-Dd n S k b]::if x.an=-1 then[[-Cx n i k,Er n i,-Dd n S k b,Dd n S (k+1) b]]else[]:=by unfold Ic;rw[h];simp
def Sn{zc:List Ba}{S:Nat}(h:∀r∈zc,0<=r.ax/\r.ax<S){x:AZ}{s E:Int}(e:Dq zc x s=some E):∃y:Nat,E=(y:Int)/\y<S:=by
 unfold Dq DT at e;cases u:zc.find? (λr=>r.st==s&&r.aq==x.aq)with
 |none=>rw[u]at e;cases e
 |some r=> rw[u]at e;simp only[Option.map_some]at e;split at e;cases e;cases e;have:=h r (y0 u);exact⟨r.ax.toNat,Ad,Ad⟩
def Ait{n a:Nat}(u:n<=4)(E:a<n):0<Er n a/\Er n a<=1000000:=by unfold Er;have H:n*n<=4*4:=ym u u;omega
def Adj(w:Aj)(x y z:Int):Ay (w.alloc (.cells #[x,y,z] 3)) w (.slice w 3 3) [x,y,z]:=Gr (w:=w.alloc (.cells #[x,y,z] 3)) (Aq.new w 3 #[x,y,z]) AG
def AcK(w:Aj)(x y z u:Int):Ay (w.alloc (.cells #[x,y,z,u] 3)) w (.slice w 4 4) [x,y,z,u]:=Gr (w:=w.alloc (.cells #[x,y,z,u] 3)) (Aq.new w 3 #[x,y,z,u]) AG
def AeR(w:Aj)(za:Nat)(x:Int)(hb:za<=w):I4 ((w.alloc (.cells #[x] 3)).alloc (.cells #[.slice w 1 1] 86)) za (some ⟨w+1,0,none⟩) 1 [.slice w 1 1] [[x]]:=by have h:=Ho (w.alloc (.cells #[x] 3)) za _ _ _ [x] ((OU w x).less hb);rwa[z3]at h
def Ac7(w:Aj)(za:Nat)(x y z u:Int)(hb:za<=w):I4 ((w.alloc (.cells #[x,y,z,u] 3)).alloc (.cells #[.slice w 4 4] 86)) za (some ⟨w+1,0,none⟩) 1 [.slice w 4 4] [[x,y,z,u]]:=by have h:=Ho (w.alloc (.cells #[x,y,z,u] 3)) za _ _ _ [x,y,z,u] ((AcK w x y z u).less hb);rwa[z3]at h
def Vp(S:Nat)(K zj:Int)(A:AD)(n c:Nat)(zc:List Ba)(B:AD)(m d:Nat)(l:List AZ)(w:Aj)(h:Dt w S K zj A n zc B m l):AC 24 #[.agg #[S,K,zj,.slice A n c],.slice B m d] w (MJ (FL zc l S) w):=by
 have aN:Ae w (w.alloc (.cells #[S,K,zj,.slice A n c] 24)):=(Ae.refl _).alloc _;have hb:=Aq.new w 24 #[S,K,zj,.slice A n c];generalize cP:w.alloc (.cells #[S,K,zj,.slice A n c] 24)=cQ at *;have a8:=hb.cell 0;have a9:=hb.cell 1;have ba:=hb.cell 2;have bc:=hb.cell 3;have H:=zk (h.ext aN);have b0:=zk aN;have cR:=zk hb;have ah:=zk h.bc;have ab:=zk h.hm;have bd:=zk h.len;have b1:=zk h.ax;have dI:m<=4:=h.hm;have dJ:S<=32:=h.bc.2;clear h aN hb;go_enter func24,ntmps24;go_wp2_with fail
 refine(KF S K zj A n c zc B m d l cQ H).mono ?_;rintro e aB⟨rfl,b2⟩;have b3:Ae aB (aB.alloc (.cells #[m,S] 67)):=(Ae.refl _).alloc _;have aO:=Aq.new aB 67 #[m,S];generalize cS:aB.alloc (.cells #[m,S] 67)=w2 at *;have aP:=aO.cell 0;have aQ:=aO.cell 1;have cT:=zk (b2.trans b3);have be:=zk aO;clear b2 b3 aO cP a8 a9 ba bc;go_wp2_with fail
 refine(EL m S w2 ab ah).mono ?_;rintro e b4⟨rfl,aC⟩;have aP:=aC.cell (be.cell 0);have aQ:=aC.cell (be.cell 1);have cU:=zk (cT.trans aC);have bf:=zk (be.ext aC);clear aC cS;generalize aB=dK at *;go_wp2_with fail
 refine(AbA m S b4).mono ?_;rintro e E⟨rfl,b5,bh⟩;have aD:=zk (cU.trans bh);have b6:=zk (bf.ext bh);have am:=zk b5;have aE:=cR.ext aD;have a8:=aE.cell 0;have a9:=aE.cell 1;have ba:=aE.cell 2;have bc:=aE.cell 3;clear bh aP aQ b5 aE;generalize b4=aR at *;go_wp2;clear a8 a9 ba bc;go_loopw[8,32](λv i wr=>∃(x:Nat)(M:AT),x<=m/\i=x/\AW wr E v M/\M=Wc zc l S x/\M.length<=300*x/\Ae E wr)(λ_ i _=>m-(intOf i).toNat);case atStart=>exact⟨0,[],zx _,rfl,AW.nil _ _,by simp[Wc],AG,Ae.refl _⟩
 case round=>
  obtain⟨x,M,aN,rfl,ac,ad,dL,V⟩:=hrel;have bi:=zk ac;have b7:=zk ad;have cV:=zk V;by_cases aF:x<m
  . obtain⟨dM,J,O,T,u,rs,rfl,b8,cW,cX,cY,cZ,c0⟩:=(H.bG.ext (aD.trans V)).at_ aF;have c9:=zk (EO b8);have dN:(x:Int)<(m:Int):=Ad;have dO:(0:Int)<=(x:Int):=Ad;have b9:=Aq.new wr 96 #[J,O,T,u,rs];have bj:Ae wr (wr.alloc (.cells #[J,O,T,u,rs] 96)):=(Ae.refl wr).alloc _;generalize da:wr.alloc (.cells #[J,O,T,u,rs] 96)=dc at *;have dd:=zk b9;have cc:=zk (V.trans bj);have de:=zk (bi.ext bj);have df:=zk (λW(ae:Ae E W)=>Ahn m S x aR W ab ah aF (ae.cell (am.cell 0)) (ae.cell (am.cell 1)));clear b8 ac ad V bj b9;go_wp2_with fail
    refine(df dc cc).mono ?_;rintro e dg⟨rfl,aS⟩;have aT:=zk (cc.trans aS);have bk:=zk (de.ext aS);have ao:=dd.ext aS;have bn:=zk ao;have br:=ao.cell 0;have bt:=ao.cell 1;have bu:=ao.cell 2;have aG:=ao.cell 3;have bw:=ao.cell 4;have ce:=zk (Ait ab aF);have aU:=zk (AeI zc l S x);rw[c9.out,bd.out]at aU;dsimp only at aU;clear da cW cX cY cZ c0 ao aS;obtain⟨U,bx⟩:∃z,Er m x=z:=⟨_,rfl⟩;rw[bx]at ce aU⊢;have dh:=zk bx;clear bx;generalize wr=bz at *;go_upto_if 42 with fail
    go_cut[8](λv ay=>AW ay E v (M++if u=-1 then[]else[[U]])/\Ae E ay/\Aq ay bz 96 #[J,O,T,u,rs])
    case first=>
     by_cases ag:u=-1
     . subst ag;go_wp2;go_meet;exact⟨by simpa using bk.out,aT.out,bn.out⟩
     . have di:(u !=-1)=true:=by simpa using ag
       have cf:=zk ag;have aH:=zk (AeR dg E U aT.size);clear ag;go_wp2_with(at_builtin;refine EM _ rfl (.tmp 43) (.tmp 46) rfl E _ M rfl ((bk.out.ext ((Ae.refl _).alloc _)).ext ((Ae.refl _).alloc _)) _ _ _ _ [[U]] rfl aH.out Ad (by have:=aT.out.size;simp;omega) ?_;intro aI aJ aK cg aj aq an _;have bA:=zk aj;have bB:Hid (Ae E cg):=Ae.grown ((aT.out.alloc _).alloc _) aq an;have bC:=zk (Aq.grown ((bn.out.alloc _).alloc _) aq (λe=>bk.out.ai bn.out Ax e.symm));clear aj aq an)
       go_meet;exact⟨by rw[zo cf];exact bA,bB,bC⟩
    case rest=>
     obtain⟨ch,bD,an⟩:=hcut;generalize wc=cg at *;have bE:Hid ((if u=-1 then([]:AT)else[[U]]).length<=1):=zk (by split<;>simp);generalize(if u=-1 then([]:AT)else[[U]])=aL at *;have bB:=zk bD;have dj:=zk ch;have bC:=zk an;have aP:=bD.cell (b6.cell 0);clear ch bD an br bt bu aG bw;go_wp2;clear aP;go_loopw[8,50](λv au wr=>∃(k:Nat)(ak:AT),k<=m/\au=k/\AW wr E v (M++aL++ak)/\ak=Up zc m S ⟨J,O,T,u,rs⟩ x k/\ak.length<=64*k/\Ae E wr/\Aq wr bz 96 #[J,O,T,u,rs])(λ_ au _=>m-(intOf au).toNat);case atStart=>exact⟨0,[],zx _,rfl,by rw[yg];exact dj,by simp[Up],AG,bB,bC⟩
     case round=>
      obtain⟨k,ak,dP,rfl,ac,ad,dQ,V,av⟩:=hrel;have ci:=zk ac;have cj:=zk ad;have cm:=zk V;have dl:=zk av;by_cases bF:k<m
      . have aQ:=V.cell (b6.cell 1);have dR:(k:Int)<(m:Int):=Ad;clear ac ad V av;go_wp2;clear aQ;go_loopw[8,55](λv au wr=>∃(y:Nat)(al:AT),y<=S/\au=y/\AW wr E v (M++aL++ak++al)/\al=RQ zc m S ⟨J,O,T,u,rs⟩ x k y/\al.length<=2*y/\Ae E wr/\Aq wr bz 96 #[J,O,T,u,rs])(λ_ au _=>S-(intOf au).toNat);case atStart=>exact⟨0,[],zx _,rfl,by rw[yg];exact ci,by simp[RQ],AG,cm,dl⟩
        case round=>
         obtain⟨y,al,dS,rfl,ac,ad,dT,V,av⟩:=hrel;have bG:=zk ac;have bH:=zk ad;have aw:=zk V;have bI:=zk av;by_cases aV:y<S
         . have dm:=zk (λW(ae:Ae E W)=>AhA m S x k aR W ab ah aF bF (ae.cell (am.cell 0)) (ae.cell (am.cell 1)));have dn:=zk (λW(ae:Ae E W)=>Aa6 m S k y aR W ab ah Ad aV (ae.cell (am.cell 0)) (ae.cell (am.cell 1)));have cn:=zk (λ(z:Nat)(aW:z<S)W(ae:Ae E W)=>Agn m S k z aR W ab ah bF aW (ae.cell (am.cell 0)) (ae.cell (am.cell 1)));have co:=zk (Adw zc m S ⟨J,O,T,u,rs⟩ x k y);have bJ:=zk (λ(z:Nat)(h:Dq zc ⟨J,O,T,u,rs⟩ y=some ((z:Nat):Int))=>XF (n:=m) (S:=S) (i:=x) (k:=k) h);have bK:=zk (λ(h:Dq zc ⟨J,O,T,u,rs⟩ y=none)=>Yx (n:=m) (S:=S) (i:=x) (k:=k) h);have dU:(y:Int)<(S:Int):=Ad;have cp:=Qj (b:=k) ab aF bF;have cq:=SZ (n:=m) (S:=S) (a:=k) (b:=y) ab (by have:=ah.out;omega) Ad aV;have cr:=ce.out;rw[dh.out]at bJ bK;generalize Cx m x k=Z at *;generalize Dd m S k y=aa at *;have v0:IntKind.i64.wrap (-U)=-U:=z5 _ Ad;have v1:IntKind.i64.wrap (-Z)=-Z:=z5 _ Ad;have dV:IntKind.i64.wrap (-aa)=-aa:=z5 _ Ad;have dW:=zk cr;have dX:=zk cp;have dY:=zk cq;clear ac ad V av cr cp cq;go_wp2_with fail
           refine(dm wr aw).mono ?_;rintro e dp⟨rfl,bL⟩;have dq:=zk (aw.trans bL);have cs:=zk bL;clear bL;go_wp2_with fail
           refine(dn dp dq).mono ?_;rintro e az⟨rfl,bM⟩;have ct:Ae az (az.alloc (.cells #[.int .i64 (-Z),.int .i64 (-U),.int .i64 (-aa)] 3)):=(Ae.refl _).alloc _;have cu:=Adj az (-Z) (-U) (-aa);generalize dr:az.alloc (.cells #[.int .i64 (-Z),.int .i64 (-U),.int .i64 (-aa)] 3)=ds at *;have aX:=cs.trans (bM.trans ct);have dt:=zk aX;have cv:=zk (aw.trans aX);have bN:Hid (wr.heap.size<=az.heap.size):=zk (Ae.size_le (cs.trans bM));have du:=zk cu;have ax:=bI.ext aX;have dv:=zk ax;have br:=ax.cell 0;have bt:=ax.cell 1;have bu:=ax.cell 2;have aG:=ax.cell 3;have bw:=ax.cell 4;clear bM ct cu aX ax;go_wp2_with fail
           refine(Xa S K zj A n c zc J O T u rs y ds (H.cb.ext (aD.trans cv)) H.ca).mono ?_;rintro e dw⟨rfl,aM⟩;have bO:=zk (dt.trans aM);have cx:=zk (cv.trans aM);have cy:=zk (du.ext aM);have dZ:=zk (dv.ext aM);have ea:=zk (bG.ext bO);clear aM dr br bt bu aG bw;generalize az=eb at *;obtain⟨C,cz⟩:∃C:An,C=[-Z,-U,-aa]++match Dq zc ⟨J,O,T,u,rs⟩ y with|some bP=>[Dd m S (k+1) bP.toNat]|none=>[]:=⟨_,rfl⟩
           have bQ:=zk cz;clear cz;have aY:Hid (Ic zc m S ⟨J,O,T,u,rs⟩ x k y=C::if u=-1 then[[-Z,U,-aa,Dd m S (k+1) y]]else[]):=zk (by
            rw[bQ.out];cases af:Dq zc ⟨J,O,T,u,rs⟩ y with
            |none=>rw[bK af];simp
            |some bP=> obtain⟨z,rfl,_⟩:=Sn b1 af;rw[bJ z af];simp)
           clear bJ bK;go_upto_if 80 with fail
           go_cut[16,17,18](λdx _ _ ay=>∃(aI:AD)(aJ aK:Nat),dx=.slice aI aJ aK/\Ay ay E (.slice aI aJ aK) C/\Ae wr ay)
           case first=>
            cases af:Dq zc ⟨J,O,T,u,rs⟩ y with
            |none=>
             have bR:Hid (Ih zc ⟨J,O,T,u,rs⟩ y=(0,false)):=zk (by unfold Ih;rw[af]);have bS:C=[-Z,-U,-aa]:=by rw[bQ.out,af];simp
             rw[bR.out];clear af;subst bS;go_wp2;go_meet;exact⟨_,_,_,rfl,cy.less (z7 aw.size bN),bO⟩
            |some bP=>
             obtain⟨z,rfl,aW⟩:=Sn b1 af;have bR:Hid (Ih zc ⟨J,O,T,u,rs⟩ y=((z:Int),true)):=zk (by unfold Ih;rw[af]);have bS:C=[-Z,-U,-aa,Dd m S (k+1) z]:=by rw[bQ.out,af];simp
             have aZ:=SZ (n:=m) (S:=S) (a:=k+1) (b:=z) ab (by have:=ah.out;omega) Ad aW;rw[bR.out];clear af;subst bS;have bT:=zk (cn z aW);generalize Dd m S (k+1) z=aA at *;have bf:=zk aZ;clear aZ;go_wp2_with fail
             refine(bT dw cx).mono ?_;rintro e dy⟨rfl,a1⟩;have cA:=zk (bO.trans a1);have ec:=zk (cx.trans a1);have cB:=zk (cy.ext a1);have dz:=zk (BD dy (.int .i64 aA) 3);clear a1;go_wp2_with(at_builtin;refine BW _ rfl (.tmp 81) (.tmp 87) rfl wr.heap.size _ [-Z,-U,-aa] rfl ((cB.out.less bN.out).alloc _) _ _ aA rfl dz.out (by have:=bf.out;omega) (by simp) (by have:=cA.out.size;simp;omega) ?_;intro ed bU cC cD a5;have bV:=zk cC;have dA:Hid (Ae wr bU):=zk (Ae.grown (cA.out.alloc _) cD (λk e=>by have:=(cB.out.J k e).1;have:=bN.out;omega));clear cC cD a5)
             go_meet;obtain⟨ee,ef,eg,rfl⟩:=Ay.form bV;exact⟨_,_,_,rfl,bV.less aw.size,dA⟩
           case rest=>
            obtain⟨aI,aJ,aK,rfl,aj,a6⟩:=hcut;generalize wc=bU at *;have bV:=zk aj;have cE:=aw.trans a6;have cF:=zk cE;have cG:=zk (bG.ext a6);have a5:=bI.ext a6;have cH:=zk a5;have aH:=zk (Ho bU E _ _ _ _ aj);clear aj a6 cE a5;by_cases ag:u=-1;focus subst ag;have aZ:=SZ (n:=m) (S:=S) (a:=k+1) (b:=y) ab (by have:=ah.out;omega) Ad aV;have bT:=zk (cn y aV);rw[zq rfl]at aY;generalize Dd m S (k+1) y=aA at *;clear aZ
            rotate_left;focus
             have di:(u==-1)=false:=by simpa using ag
             have cf:=zk ag;rw[zo ag]at aY;clear ag
            all_goals go_wp2_with(at_builtin;refine EM _ rfl (.tmp 89) (.tmp 91) rfl E _ (M++aL++ak++al) rfl (cG.out.ext ((Ae.refl _).alloc _)) _ _ _ _ [C] rfl aH.out (by have:=bE.out;simp only[zu];omega) (by have:=cF.out.size;simp;omega) ?_;intro eh ei ej cI cJ bW cK _;have cL:=zk cJ;have bX:Hid (Ae E cI):=Ae.grown (cF.out.alloc _) bW cK;have bY:=Aq.grown (cH.out.alloc _) bW (λe=>cG.out.ai cH.out Ax e.symm);have cM:=zk bY;have aG:=bY.cell 3;clear cJ bW cK bY)
            go_roundw;case rel=>exact⟨y+1,al++[C],Ad,by go_num,by have h:=cL.out;simp only[yy]at h⊢;exact h,by rw[co.out,bH.out,aY.out],Ca,bX,cM⟩
            case measure=>simp[intOf];omega
            refine(bT cI bX).mono ?_;rintro e dB⟨rfl,a7⟩;have bZ:=zk (bX.trans a7);have cN:=zk (cL.ext a7);have cO:=zk (cM.ext a7);have aH:=zk (Ac7 dB E (-Z) U (-aa) aA bZ.size);clear a7 aG;go_wp2_with(at_builtin;refine EM _ rfl (.tmp 96) (.tmp 106) rfl E _ (M++aL++ak++al++[C]) rfl ((cN.out.ext ((Ae.refl _).alloc _)).ext ((Ae.refl _).alloc _)) _ _ _ _ [[-Z,U,-aa,aA]] rfl aH.out (by have:=bE.out;simp only[zu,List.length_singleton];omega) (by have:=bZ.out.size;simp;omega) ?_;intro aI aJ aK dC aj aq an _;have bA:=zk aj;have dD:Hid (Ae E dC):=Ae.grown ((bZ.out.alloc _).alloc _) aq an;have dE:=zk (Aq.grown ((cO.out.alloc _).alloc _) aq (λe=>cN.out.ai cO.out Ax e.symm));clear aj aq an)
            go_roundw;case rel=>exact⟨y+1,al++[C,[-Z,U,-aa,aA]],Ad,by go_num,by have h:=bA.out;simp only[yy,List.singleton_append]at h⊢;exact h,by rw[co.out,bH.out,aY.out],Ca,dD,dE⟩
            case measure=>simp[intOf];omega
         obtain rfl:S=y:=Ad;clear ac ad V av;go_wp2;go_roundw;case rel=>exact⟨k+1,ak++al,Ad,by go_num,by rw[<-yy];exact bG,by rw[Aep,cj.out,bH.out],by have:=ah.out;simp;omega,aw,bI⟩
         case measure=>simp[intOf];omega
      obtain rfl:m=k:=Ad;clear ac ad V av;go_wp2;go_roundw;case rel=>exact⟨x+1,M++(aL++ak),Ad,by go_num,by rw[<-yy];exact ci,by rw[aU.out,b7.out,cj.out],by have:=bE.out;have:=ab.out;simp;omega,cm⟩
      case measure=>simp[intOf];omega
  obtain rfl:m=x:=Ad;clear ac ad V;go_wp2;go_ret;obtain⟨dF,dG,dH,e,_⟩:=bi.form;subst e;have:=bi.out;rw[b7.out]at this;refine⟨dF,dG,dH,rfl,AW.less (by unfold FL;rw[bd.out];unfold Wc at this;rw[bd.out]at this;exact this) (Ae.size_le (b0.trans aD)),b0.trans (aD.trans cV)⟩
def I6(L:AT)(v:Aw)(W:Aj):Prop:=∃A n c,v=.slice A n c/\n<=c/\Bf W A n L
def Afd(ps:List (Nat×Nat))(v:Aw)(W:Aj):Prop:=∃A n c,v=.slice A n c/\NX W A n ps
def SY(u:List AT)(v:Aw)(W:Aj):Prop:=∃A n c,v=.slice A n c/\Iw W A n u
def I6.ext{L:AT}{v:Aw}{W W':Aj}(h:I6 L v W)(u:Ae W W'):I6 L v W':=let⟨A,n,c,e,E,H⟩:=h;⟨A,n,c,e,E,H.ext u⟩
def Afd.ext{ps:List (Nat×Nat)}{v:Aw}{W W':Aj}(h:Afd ps v W)(u:Ae W W'):Afd ps v W':=let⟨A,n,c,e,E⟩:=h;⟨A,n,c,e,BA.ext E u⟩
def SY.ext{u:List AT}{v:Aw}{W W':Aj}(h:SY u v W)(E:Ae W W'):SY u v W':=let⟨A,n,c,e,H⟩:=h;⟨A,n,c,e,H.ext E⟩
def MJ.row{L:AT}{w w':Aj}{e:Bz}(h:MJ L w e w')(hb:∀xs∈L,xs.length<=1000000/\∀x∈xs,-1000000<=x/\x<=1000000)(U:L.length<=1000000):∃v,e=.returned v/\Ae w w'/\I6 L v w':=by obtain⟨A,n,c,rfl,E,H⟩:=h;obtain⟨A',n',c',e,J,O⟩:=E.aC (λxs u=>⟨by have:=(hb xs u).1;omega,λx T=>by have:=(hb xs u).2 x T;omega⟩) Ad;cases e;exact⟨_,rfl,H,A,n,c,rfl,O,J⟩
def Aia(za:Nat)(L:AT)(v:Aw)(W:Aj):Prop:=∃A n c,v=.slice A n c/\AW W za (.slice A n c) L
def AW.ea{w:Aj}{za g:Nat}{v a b a' b':Aw}{L:AT}{t:TypeId}(h:AW w za v L)(u:Aq w g t #[a',b'])(E:3≠t)(H:86≠t):AW (AdF w g a b) za v L:=(h.cL u E H (IQ w g 0 a)).cL (u.ad 0 a) E H (IQ _ g 1 b)
def Abg(w:Aj)(J O T U:AT)(v1 u E v4:Aw)(V:I6 J v1 w)(Z:I6 O u w)(aa:I6 T E w)(ab:I6 U v4 w)(t:TypeId):Iw (w.alloc (.cells #[v1,u,E,v4] t)) w 4 [J,O,T,U]:=by
 refine⟨rfl,λ_=>⟨_,rfl,λj L H=>?_⟩⟩;have hb:=Aq.new w t #[v1,u,E,v4];have ac:Ae w (w.alloc (.cells #[v1,u,E,v4] t)):=(Ae.refl _).alloc _;have go:∀(k:Nat)(v:Aw)(L:AT),(#[v1,u,E,v4]:Ck)[k]? =some v->I6 L v w->∃A' n' c',(w.alloc (.cells #[v1,u,E,v4] t)).cell? ((w:Addr).add k)=some (.slice A' n' c')/\Bf (w.alloc (.cells #[v1,u,E,v4] t)) A' n' L:=λk v L ad⟨A',n',c',e,_,ae⟩=>by refine⟨A',n',c',?_,ae.ext ac⟩;rw[Of,xv,<-e];have:=cell_of_row (w.alloc (.cells #[v1,u,E,v4] t)) w k #[v1,u,E,v4] t (0,0) (aaf w _);rw[this,ad]
 match j with
 |0=>simp at H;subst H;exact go 0 v1 _ rfl V
 |1=>simp at H;subst H;exact go 1 u _ rfl Z
 |2=>simp at H;subst H;exact go 2 E _ rfl aa
 |3=>simp at H;subst H;exact go 3 v4 _ rfl ab
 |j+4=>simp at H
def Ahf(S K zj:Int)(zc:List Ba)(l:List AZ)(w:Aj)(e:Bz)(w':Aj):Prop:=∃(v:Aw)(u:Int),e=.returned (.tuple #[v,u])/\Ae w w'/\(u=0↔H7 S K zj zc/\EV l)/\(∃(a:Int)(A:AD)(n c:Nat),v=.agg #[a,.slice A n c]/\n<=c/\(H7 S K zj zc/\EV l->a=BJ l.length S.toNat/\Bf w' A n (DM zc l S.toNat zj.toNat)/\∃b,AW w' b (.slice A n c) (DM zc l S.toNat zj.toNat)))
def Aap{zc:List Ba}{l:List AZ}{S zj:Nat}(E:l.length<=4)(H:S<=32)(hi:zj<S)(J:∀r∈zc,0<=r.ax/\r.ax<S):∀xs∈DM zc l S zj,xs.length<=1000000/\∀x∈xs,-1000000<=x/\x<=1000000:=λxs O=>by have u:=Kv (S:=S) hi J xs O;have U:=FE E H;exact⟨by have:=u.2;omega,λx T=>by have:=u.1.aN x T;omega⟩
def PR(S K zj:Int)(A:AD)(n c:Nat)(zc:List Ba)(B:AD)(m d:Nat)(l:List AZ)(w:Aj)(h:Bi w A n zc)(aC:Bx w B m l)(aT:n<=1000000000)(Z:m<=4)(bk:Bj S)(bn:Bj K)(br:∀x∈l,Bj x.st/\Bj x.an/\Bj x.aD):AC 6 #[.agg #[S,K,zj,.slice A n c],.slice B m d] w (Ahf S K zj zc l w):=by
 have u:Ae w ((w.alloc (.cells #[S,K,zj,.slice A n c] 24)).alloc (.cells #[(),AI] 34)):=((Ae.refl _).alloc _).alloc _;have ak:=(Aq.new w 24 #[S,K,zj,.slice A n c]).alloc (.cells #[(),AI] 34);have aD:=Aq.new (w.alloc (.cells #[S,K,zj,.slice A n c] 24)) 34 #[(),AI];rw[z3]at aD;generalize bt:(w.alloc (.cells #[S,K,zj,.slice A n c] 24)).alloc (.cells #[(),AI] 34)=aU at *;have bu:=ak.cell 0;have aE:=ak.cell 1;have aF:=ak.cell 2;have aa:=ak.cell 3;have aV:=h.ext u;have aG:=aC.ext u;have aW:=u;have bw:=ak;have bx:=aD;have al:=zk aC.len;clear h aC u ak aD;go_enter func6,ntmps6;go_wp2_with fail
 refine(UP S K zj A n c zc B m d l aU aV aG aT Z bk bn br).mono ?_;rintro e ay⟨v1,aH,rfl,aX,⟨aI,aJ,rfl,aY⟩,aZ⟩;have a1:Ae ay (ay.alloc (.cells #[aI,aJ] 67)):=(Ae.refl _).alloc _;have ab:=Aq.new ay 67 #[aI,aJ];generalize b8:ay.alloc (.cells #[aI,aJ] 67)=ac at *;have am:=aZ.trans a1;have a5:=ab;have U:=bx.ext am;have aK:=zk aX;have bz:=zk aY;clear aZ a1 aX aY bt bu aE aF aa;by_cases az:aH=0
 . subst az;obtain⟨ad,ae⟩:=aK.1 rfl;obtain⟨H,rfl⟩:∃H:Nat,S=(H:Int):=⟨S.toNat,by have:=ad.1;omega⟩;obtain⟨O,rfl⟩:∃O:Nat,zj=(O:Int):=⟨zj.toNat,by have:=ad.2.2.1;omega⟩;obtain⟨rfl,rfl⟩:=bz ⟨ad,ae⟩;have aL:(Dt aU H K O A n zc B m l):=⟨aV,aG,aT,Z,ad,ae⟩;have bA:(H7 (H:Int) K (O:Int) zc/\EV l):=⟨ad,ae⟩;have an:=aL.bc;have a6:O<H:=by have:=ad.2.2.1;omega
   have af:=Aap (l:=l) (by have:=al.out;omega) an.2 a6 aL.ax;have ao:=KD (zc:=zc) (l:=l) (S:=H) (zj:=O) (by have:=al.out;omega) an.2;have bB:(∀p∈Cc l,p.1<m/\p.2<m):=λp bC=>by have:=G8.1 bC;have:=al.out;omega
   obtain⟨E,aA⟩:∃E,E=DM zc l H O:=⟨_,rfl⟩;have ag:E=Fj m++Gk m (Cc l)++Fl m H O++FL zc l H:=by rw[aA];unfold DM;rw[al.out]
   rw[<-aA]at af ao;have a7:∀xs∈Fj m,_:=λxs u=>af xs (by rw[ag];simp[u]);have a8:∀xs∈Gk m (Cc l),_:=λxs u=>af xs (by rw[ag];simp[u]);have a9:∀xs∈Fl m H O,_:=λxs u=>af xs (by rw[ag];simp[u]);have ba:∀xs∈FL zc l H,_:=λxs u=>af xs (by rw[ag];simp[u]);have aq:(Fj m).length<=10000/\(Gk m (Cc l)).length<=10000/\(Fl m H O).length<=10000/\(FL zc l H).length<=10000:=by rw[ag]at ao;simp only[zu]at ao;omega
   have bD:=zk aA;have bE:=zk ag;have bc:=af;have bF:=ao;have aB:=bw.ext am;have aM:=λW(J:Ae ac W)=>J.cell (ab.cell 0);have au:=λW(J:Ae ac W)=>J.cell (ab.cell 1);have bG:=λW(J:Ae ac W)=>J.cell (aB.cell 0);have bH:=λW(J:Ae ac W)=>J.cell (aB.cell 1);have bI:=λW(J:Ae ac W)=>J.cell (aB.cell 2);have bJ:=λW(J:Ae ac W)=>J.cell (aB.cell 3);clear ad ae af ao aA ag ab;go_wp2;refine Ct [(20,I6 (Fj m)),(23,Afd (Cc l)),(24,I6 (Gk m (Cc l))),(28,I6 (Fl m H O)),(31,I6 (FL zc l H)),(32,SY [Fj m,Gk m (Cc l),Fl m H O,FL zc l H]),(33,Aia ac E)] (n:=15) AJ rfl rfl (.cons (λ_ _ _ h u=>h.ext u) (.cons (λ_ _ _ h u=>h.ext u) (.cons (λ_ _ _ h u=>h.ext u) (.cons (λ_ _ _ h u=>h.ext u) (.cons (λ_ _ _ h u=>h.ext u) (.cons (λ_ _ _ h u=>h.ext u) (.cons (λ_ _ _ h u=>let⟨A,n,c,e,ah⟩:=h;⟨A,n,c,e,ah.ext u⟩) .nil))))))) ?_;simp only[List.take_succ_cons,List.take_zero];(repeat apply Ep rfl rfl (λW J=>Am) Am);refine Di 20 _ (by rfl) rfl rfl (by rfl) (λW σ J T=>?_) Am ?_;simp only[AQ];exact .inr ⟨_,_,by go_simp,(Vn m H W Z an).mono λe w' V=>V.row a7 (by have:=aq;omega)⟩;(repeat apply Ep rfl rfl (λW J=>Am) Am);refine Di 23 _ (by rfl) rfl rfl (by rfl) (λW σ J T=>?_) Am ?_;simp only[AQ];exact .inr ⟨_,_,by go_simp,(Nd B m d l W (aG.ext (am.trans J)) (by have:=Z;omega)).mono λe w'⟨A',k,c',ah,aj,aN⟩=>⟨_,ah,aN,A',k,c',rfl,aj⟩⟩;refine Di 24 _ (by rfl) rfl rfl (by rfl) (λW σ J T=>?_) Am ?_;obtain⟨A',aO,c',ah,aj⟩:=T 23 _ rfl AJ;simp only[AQ,ah];exact .inr ⟨_,_,by go_simp,(VF m H aO c' A' (Cc l) W Z an aj (by have aN:=aj.1;rw[BZ Ig]at aN;have b9:=Nt (l:=l) (by have:=al.out;have:=Z;omega);omega) bB).mono λe w' V=>V.row a8 (by have:=aq;omega)⟩;(repeat apply Ep rfl rfl (λW J=>Am) Am);refine Di 28 _ (by rfl) rfl rfl (by rfl) (λW σ J T=>?_) Am ?_;simp only[AQ];exact .inr ⟨_,_,by go_simp,(Vx m H O W Z an a6).mono λe w' V=>V.row a9 (by have:=aq;omega)⟩;(repeat apply Ep rfl rfl (λW J=>Am) Am);refine Di 31 _ (by rfl) rfl rfl (by rfl) (λW σ J T=>?_) Am ?_;simp only[AQ];exact .inr ⟨_,_,by go_simp,(Vp H K O A n c zc B m d l W (aL.ext (am.trans J))).mono λe w' V=>V.row ba (by have:=aq;omega)⟩;refine Di 32 _ (by rfl) rfl rfl (by rfl) (λW σ J T=>?_) Am ?_;obtain⟨bK,bL,aE,au,bM,bN⟩:=T 20 _ rfl AJ;obtain⟨bO,bP,aF,aP,bQ,bR⟩:=T 24 _ rfl AJ;obtain⟨av,aw,aa,bS,bT,bU⟩:=T 28 _ rfl AJ;obtain⟨bd,be,bf,ax,bV,bW⟩:=T 31 _ rfl AJ;simp only[AQ,au,aP,bS,ax];exact .inl ⟨.slice W 4 4,_,by go_simp,by grind,_,_,_,rfl,Abg W _ _ _ _ _ _ _ _ ⟨bK,bL,aE,rfl,bM,bN⟩ ⟨bO,bP,aF,rfl,bQ,bR⟩ ⟨av,aw,aa,rfl,bT,bU⟩ ⟨bd,be,bf,rfl,bV,bW⟩ 32⟩;refine Di 33 _ (by rfl) rfl rfl (by rfl) (λW σ J T=>?_) Am ?_;obtain⟨A',aO,c',ah,aj⟩:=T 32 _ rfl AJ;simp only[AQ,ah];exact .inr ⟨_,_,by go_simp,(AcH A' aO c' _ W aj (by have:=aj.1;simp at this;omega) (λL ae=>by
    have cc:=aq;simp only[xl,adf,or_false]at ae;rcases ae with rfl|rfl|rfl|rfl;exact⟨Ad,λxs u=>(a7 xs u).1⟩;exact⟨Ad,λxs u=>(a8 xs u).1⟩;exact⟨Ad,λxs u=>(a9 xs u).1⟩;exact⟨Ad,λxs u=>(ba xs u).1⟩)).mono λe w' V=>by
    have ax:[Fj m,Gk m (Cc l),Fl m H O,FL zc l H].flatten=E:=by rw[bE.out];simp
    rw[ax]at V;obtain⟨bX,bY,bZ,b0,b1,b2⟩:=V;exact⟨_,b0,b2,bX,bY,bZ,rfl,b1.less J.size⟩⟩
   refine AN λW σ aQ T=>?_;obtain⟨av,aw,aa,bh,b3⟩:=T 33 _ rfl;simp only[AQ,bh];have aM:=aQ.cell (a5.cell 0);have au:=aQ.cell (a5.cell 1);clear T bh bG bH bI bJ;go_wp2_with fail
   refine(LZ m H W Z an).mono ?_;rintro e ce⟨rfl,aR⟩;have bi:=aQ.trans aR;have U:=U.ext bi;have aS:=zk U;have d0:=U.cell 0;have d1:=U.cell 1;have f0:=U.frozen 0;have f1:=U.frozen 1;have bj:=zk (b3.ext aR);clear aR aM au;go_wp2;try rw[x8]
   refine yw (CS rfl _ _ (w+1) 34 #[((BJ m H:Nat):Int),.slice av aw aa] (0,0) _ rfl (Jh aS) underlying34 rfl AJ) rfl ?_;obtain⟨bd,be,bf,ax,b4,b5⟩:=(AW.ea (a:=((BJ m H:Nat):Int)) (b:=.slice av aw aa) bj aS Ax Ax).aC (λxs u=>⟨by have:=(bc xs u).1;omega,λx b6=>by have:=(bc xs u).2 x b6;omega⟩) (by have:=bF;omega);cases ax;refine⟨_,0,rfl,I8 (aW.trans (am.trans bi)) Ad _ _,⟨λ_=>bA,λ_=>rfl⟩,_,_,_,_,rfl,b5,λ_=>⟨?_,?_⟩⟩;rw[al.out];rfl;have aP:DM zc l (H:Int).toNat (O:Int).toNat=E:=by rw[bD.out];rfl
   rw[aP];exact⟨b4,_,AW.ea (a:=((BJ m H:Nat):Int)) (b:=.slice av aw aa) bj aS Ax Ax⟩
 have cf:(aH !=0)=true:=by simpa using az
 have b7:=zk az;have aM:=ab.cell 0;have au:=ab.cell 1;have d0:=U.cell 0;have d1:=U.cell 1;have f0:=U.frozen 0;have f1:=U.frozen 1;clear az ab;go_wp2;try rw[x8]
 refine yw (CS rfl _ _ (w+1) 34 #[(),AI] (0,0) _ rfl (Jh U) underlying34 rfl AJ) rfl ?_;exact⟨_,aH,rfl,I8 (aW.trans am) Ad _ _,aK,_,_,_,_,rfl,zs _,λh=>absurd (aK.2 h) b7⟩
def Acp(S:Nat)(K zj:Int)(A:AD)(n c:Nat)(zc:List Ba)(B:AD)(m d:Nat)(l:List AZ)(w:Aj)(h:Dt w S K zj A n zc B m l):AC 32 #[.agg #[S,K,zj,.slice A n c],.slice B m d] w λe w'=>e=.returned ()/\Ae w w':=by
 have aq:=h.bc;have au:=h.dn;have O:Ae w (w.alloc (.cells #[S,K,zj,.slice A n c] 24)):=(Ae.refl _).alloc _;have hb:=Aq.new w 24 #[S,K,zj,.slice A n c];generalize af:w.alloc (.cells #[S,K,zj,.slice A n c] 24)=ag at *;have T:=hb.cell 0;have U:=hb.cell 1;have V:=hb.cell 2;have Z:=hb.cell 3;have H:=h.ext O;have ah:=O;have J:=hb;have aj:=h.hm;have d5:decide ((64:Int)<(m:Int))=false:=zn Ad;clear h O hb;go_enter func32,ntmps32;go_wp2_with fail
 refine(Fq S K zj A n c zc ag H.cb H.ca Ad Ad).mono ?_;rintro e ak⟨av,al,rfl,E,aa⟩;obtain rfl:al=0:=E.2 H.b6;clear E af;go_wp2_with fail
 refine(Iz B m d l ak (H.bG.ext aa) Ad H.b9.aN).mono ?_;rintro e w2⟨aw,am,rfl,E,ab⟩;obtain rfl:am=0:=E.2 H.b9;have u:=aa.trans ab;have T:=u.cell (J.cell 0);have U:=u.cell (J.cell 1);have V:=u.cell (J.cell 2);have Z:=u.cell (J.cell 3);clear ab E;go_wp2_with fail
 refine(KF S K zj A n c zc B m d l w2 (H.ext u)).mono ?_;rintro e an⟨rfl,ac⟩;have ad:=u.trans ac;clear ac T U V Z;go_wp2_with fail
 refine(UT S B m d l an (H.bG.ext ad) aj H.bc H.b9).mono ?_;rintro e ax⟨rfl,ae⟩;have ao:=ad.trans ae;clear ae;go_wp2;go_ret;exact⟨rfl,ah.trans ao⟩
def AhL(n S i:Nat)(w:Aj)(J:n<=4)(O:1<=S/\S<=32)(hi:i<n):AC 39 #[.agg #[n,S],i] w λe w'=>e=.returned (Er n i)/\Ae w w':=by
 have E:Ae w (w.alloc (.cells #[n,S] 67)):=(Ae.refl _).alloc _;have hb:=Aq.new w 67 #[n,S];generalize T:w.alloc (.cells #[n,S] 67)=U at *;have V:=hb.cell 0;have Z:=hb.cell 1;have u:=I5 n S 2 i 0 U J O ⟨Ax,Ax⟩ (by unfold Cj;simp;omega) (by unfold Cj;simp);rw[UY]at u;have aa:=u;have ab:=E;clear u E hb;go_enter func39,ntmps39;go_wp2_with fail
 refine aa.mono ?_;rintro e ad⟨rfl,H⟩;have ac:=ab.trans H;clear H V Z T;go_wp2;go_ret;exact⟨rfl,ac⟩
def Agg{xs:An}{i:Nat}{x:Int}(E:xs.Nodup)(h:xs[i]? =some x):Ks xs x=(i:Int):=by
 have u:=zl.1 h;have H:xs.findIdx? (· ==x)=some i:=by
  rw[yq];refine⟨u.1,by simp[u.2],λj J=>?_⟩;have U:j<xs.length:=ac3 J u.1;have O:xs[j]≠x:=λe=>by have T:xs[j]=xs[i]'u.1:=e.trans u.2.symm;have:=(xz E).1 T;omega
  simpa using O
 unfold Ks;rw[H]
def R4(D:AD)(k e:Nat)(xs:An)(x:Int)(g:Nat)(w:Aj)(u:w.cell? g=some (.slice D k e))(h:AB w D k xs):AC 173 #[x,.pointer g] w λe w'=>e=.returned (Ks xs x)/\Ae w w':=by
 have H:=AeY D k e xs x w h;clear h;go_enter func173,ntmps173;go_wp2_with fail
 refine H.mono ?_;rintro e E⟨rfl,rfl⟩;go_wp2;go_ret;exact⟨rfl,Ae.refl _⟩
def VO(D:AD)(k e:Nat)(xs:An)(B:AD)(m d:Nat)(ps:List (Nat×Nat))(w:Aj)(h:AB w D k xs)(ac:NX w B m ps)(aB:m<=1000)(ah:∀p∈ps,∃i j:Nat,i<j/\Ks xs (p.1:Int)=i/\Ks xs (p.2:Int)=j):AC 98 #[.slice D k e,.slice B m d] w λe w'=>∃a:Int,e=.returned (.tuple #[a,true])/\Ae w w':=by
 have O:Ae w (w.alloc (.cells #[.slice D k e] 86)):=(Ae.refl _).alloc _;have hb:=Aq.new w 86 #[.slice D k e];generalize aj:w.alloc (.cells #[.slice D k e] 86)=ak at *;have H:=h.ext O;have al:=BA.ext ac O;have am:=O;have ad:=hb;clear h ac O hb;go_enter func98,ntmps98;go_wp2;clear aj;go_loopw[14](λi wr=>∃j:Nat,i=j/\j<=m/\Ae ak wr)(λi _=>m-(intOf i).toNat);case atStart=>exact⟨0,rfl,zx _,Ae.refl _⟩
 case round=>
  obtain⟨j,rfl,aC,E⟩:=hrel;by_cases an:j<m;obtain⟨aD,T,U,rfl,ae,ao,aq⟩:=NX.at_ (BA.ext al E) an;obtain⟨au,av,aE,Z,aa⟩:=ah _ (zm ae);dsimp only at Z aa;have aF:(j:Int)<(m:Int):=Ad;have aG:(0:Int)<=(j:Int):=Ad;have d1:decide (av<au)=false:=zn Ad;have J:Ae wr (wr.alloc (.cells #[T,U] 149)):=(Ae.refl wr).alloc _;have ab:=Aq.new wr 149 #[T,U];generalize aw:wr.alloc (.cells #[T,U] 149)=V at *;have ax:=E.trans J;have af:=λW(u:Ae V W)=>R4 D k e xs (T:Int) w W (u.cell (J.cell (E.cell (ad.cell 0)))) (H.ext (E.trans (J.trans u)));have ag:=λW(u:Ae V W)=>R4 D k e xs (U:Int) w W (u.cell (J.cell (E.cell (ad.cell 0)))) (H.ext (E.trans (J.trans u)));rw[Z]at af;rw[aa]at ag;have ay:=λW(u:Ae V W)=>u.cell (ab.cell 0);have az:=λW(u:Ae V W)=>u.cell (ab.cell 1);clear ae J ab Z aa;go_wp2;clear aw ao aq;refine AL AJ ?_;(repeat first|apply Bg rfl (λW u=>Am) Am|apply AS rfl Am);apply Bu (λW u=>af W u) rfl (λW u=>by go_simp) Am;(repeat first|apply Bg rfl (λW u=>Am) Am|apply AS rfl Am);apply Bu (λW u=>ag W u) rfl (λW u=>by go_simp) Am;(repeat first|apply Bg rfl (λW u=>Am) Am|apply AS rfl Am);refine AN λW u=>?_;have aA:=ax.trans u;clear u ay az;go_wp2;go_roundw;case rel=>exact⟨j+1,by go_num,Ad,aA⟩
  case measure=>simp[intOf];omega
  obtain rfl:m=j:=Ad;skip;go_wp2;go_ret2;exact⟨_,rfl,am.trans E⟩
abbrev N0(gf:Nat)(w w':Aj):Prop:=Au (λb=>b=gf) w w'
def Abp(r b:Nat):Nat:=if r<b then r else 0
def Abr(r b:Nat):Nat:=if r<b then 1 else 0
def Oe{r b:Nat}(h:r<b):Abp r b=r/\Abr r b=1:=⟨zq h,zq h⟩
def Mn{r b:Nat}(h:b<=r):Abp r b=0/\Abr r b=0:=⟨zo Ad,zo Ad⟩
def TR{u:List Bool}{z:Int}(E:0<z)(H:z<=(u.length:Int)):∃k:Nat,z-1=(k:Int)/\k<u.length/\u[k]? =some (Gi u z):=by refine⟨(z-1).toNat,Ad,Ad,?_⟩;unfold Gi;rw[yc,zr (show(z-1).toNat<u.length by omega)];rfl
def Aeg(n S a r:Nat)(M:Option Addr)(O c:Nat)(V:List Bool)(ae ao gf:Nat)(w:World)(aq:n<=4)(af:1<=S/\S<=32)(au:a<=n)(aJ:r<S)(H:Bw w M O V)(av:V.length=BJ n S) (aw:∀b,b<S->Gi V (Dd n S a b)=decide (r=b))(ax:w.cell? ⟨ae,0,none⟩=some (.int .i64 (n:Int)))(ay:w.cell? ⟨ae,1,none⟩=some (.int .i64 (S:Int)))(az:w.cell? ⟨ao,0,none⟩=some (.slice M O c))(aK:Aq w gf 4 #[.bool true]):Calls prog 100 #[.int .i64 (a:Int),.pointer (some ⟨ae,0,none⟩),.pointer (some ⟨ao,0,none⟩),.pointer (some ⟨gf,0,none⟩)] w λe w'=>e=.returned (.int .i64 (r:Int))/\Aq w' gf 4 #[.bool true]/\N0 gf w w':=by
 have aA:O=BJ n S:=by have:=H.1;omega
 have aB:=zk aA;have aL:=zk aw;have ag:=zk av;have aM:=zk ax;have aN:=zk ay;have aO:=zk az;have aP:=FE aq af.2;have aW:O<=180:=by omega
 have aX:=af.2;clear aw av ax az aA aP;go_enter func100,ntmps100;go_wp2;clear ay;go_loopw[6,7,11](λaQ aR v wr=>∃b:Nat,v=.int .i64 (b:Int)/\b<=S/\aQ=.int .i64 (Abp r b:Int)/\aR=.int .i64 (Abr r b:Int)/\Ae w wr)(λ_ _ v _=>S-(intOf v).toNat);case atStart=>exact⟨0,rfl,zx _,by rw[(Mn (zx r)).1];rfl,by rw[(Mn (zx r)).2];rfl,Ae.refl _⟩
 case round=>
  obtain⟨b,rfl,hb,rfl,rfl,J⟩:=hrel;by_cases ah:b<S
  . have aY:(b:Int)<(S:Int):=by omega
    have aZ:(0:Int)<=(b:Int):=by omega
    have aC:=λW=>U2 n S a b W aq af au ah;obtain⟨z,Z⟩:∃z,Dd n S a b=z:=⟨_,rfl⟩;have aa:0<z/\z<=(V.length:Int):=by rw[<-Z,ag.out];exact⟨Eo _ _ _ _,(MM au ah).2⟩
    have ab:=aL b ah;rw[Z]at ab aC;obtain⟨i,aj,aD,ac⟩:=TR aa.1 aa.2;rw[ab]at ac;have a1:IntKind.i64.wrap (z-1)=(i:Int):=by rw[z5 _ (by have:=ag.out;have:=aB.out;omega),aj]
    have ak:i<O:=by have:=ag.out;have:=aB.out;omega
    obtain⟨a5,x,rfl,al,T⟩:=(H.ext J).at_ ak;have aS:x=decide (r=b):=by have ad:=al.out;rw[ac]at ad;injection ad with ad;exact ad.symm
    subst aS;have a6:(i:Int)<(O:Int):=by omega
    have a7:(0:Int)<=(i:Int):=by omega
    have aT:=λW(u:Ae wr W)=>u.cell (J.cell aM);have aU:=λW(u:Ae wr W)=>u.cell (J.cell aN);have aV:=λW(u:Ae wr W)=>u.cell (J.cell aO);by_cases am:r=b;focus subst am;have U:decide (r=r)=true:=zt rfl;rw[U]at T;have aE:=λW(u:Ae wr W)=>u.cell T;have E:=Mn (zs r);have aF:=Oe (Nat.lt_succ_self r);rw[E.1,E.2];have aG:=zk aF;clear Z aa ab aj aD ac al ak T U E aF
    rotate_left;focus
     have U:decide (r=b)=false:=zn am;rw[U]at T;have aE:=λW(u:Ae wr W)=>u.cell T;have E:Abp r (b+1)=Abp r b/\Abr r (b+1)=Abr r b:=by by_cases h:r<b;rw[(Oe h).1,(Oe h).2,(Oe (Nat.lt_succ_of_lt h)).1,(Oe (Nat.lt_succ_of_lt h)).2];exact⟨rfl,rfl⟩;rw[(Mn Ad).1,(Mn Ad).2,(Mn (r:=r) (b:=b) Ad).1,(Mn (r:=r) (b:=b) Ad).2];exact⟨rfl,rfl⟩
     have aH:=zk E;clear Z aa ab aj aD ac al ak T U E am
    all_goals go_wp2;refine AL AJ ?_;(repeat first|apply Bg rfl (λW u=>Am) Am|apply AS rfl Am);apply Bu (λW u=>aC W) rfl (λW u=>by go_simp) Am;(repeat first|apply Bg rfl (λW u=>Am) Am|apply AS rfl Am);refine AN λW u=>?_;have aI:=J.trans u;clear u aT aU aV aE;go_wp2
    go_roundw;case rel=>exact⟨b+1,by go_num,Ad,by rw[aH.1],by rw[aH.2],aI⟩
    case measure=>simp[intOf];omega
    go_roundw;case rel=>exact⟨r+1,by go_num,Ad,by rw[aG.1],by rw[aG.2];rfl,aI⟩
    case measure=>simp[intOf];omega
  obtain rfl:S=b:=Ad;have E:=Oe aJ;rw[E.1,E.2];have an:=aK.ext J;have a8:=an.cell 0;have f0:=an.frozen 0;clear E;go_wp2;go_ret;exact⟨rfl,an.ad 0 true,Au.setCell (F:=λb=>b=gf) (Ae.stay J) (p:=gf) (.inl rfl) _⟩
def N0.trans{gf:Nat}{a b c:Aj}(h:N0 gf a b)(k:N0 gf b c):N0 gf a c:=Au.trans h k (λ_ _ u=>u)
def Abc(n g:Nat)(p q o:Addr)(gf:Nat)(f:Nat->Int)(w:Aj)(aw:n<=1000)(T:Aq w gf 4 #[true])(ax:∀(args:Ck)(W:Aj),(callFunc g args).run prog W=.ok (.enter g args) W) (ad:∀(k:Nat)(W:Aj),k<n->N0 gf w W->Aq W gf 4 #[true]->AC g #[k,.pointer (some p),.pointer (some q),.pointer (some o)] W λe w'=>e=.returned (f k)/\Aq w' gf 4 #[true]/\N0 gf W w'):AC 71 #[n,.func (.func g) #[] #[.pointer (some p),.pointer (some q),.pointer (some o)]] w λe w'=>e=.returned (.slice w n n)/\Ay w' w (.slice w n n) ((List.range n).map f)/\Aq w' gf 4 #[true]/\N0 gf w w':=by
 have ae:∀W,(Instr.makeSlice 86 n n).run prog W=.ok (.slice W n n) (W.alloc (.cells (madeCells #[()] n) 3)):=λW=>by obtain⟨af,hi,ag,ah,aj⟩:=info_parts Jr;have:=Ci (P:=prog) 86 3 af _ underlying86 hi ag .i64 .i64 n n (zs _) (by rw[aj];omega) Ad W;rw[ah,abc]at this;exact this
 have U:(gf<w):=T.lt;skip;go_enter func71,ntmps71;go_wp2;have E:Ae w (w.alloc (.cells (madeCells #[()] n) 3)):=by grind
 have ak:Aq (w.alloc (.cells (madeCells #[()] n) 3)) w 3 (Cu f n 0):=by rw[<-IV f];exact Aq.new w _ _
 have al:(N0 gf w (w.alloc (.cells (madeCells #[()] n) 3))):=Ae.stay E;have am:=T.ext E;clear E ae;go_loopw[11](λi wr=>∃k:Nat,i=k/\k<=n/\N0 gf w wr/\Aq wr gf 4 #[true]/\Aq wr w 3 (Cu f n k))(λi _=>n-(intOf i).toNat);case atStart=>exact⟨0,rfl,zx _,al,am,ak⟩
 case round=>
  obtain⟨k,rfl,ay,H,V,Z⟩:=hrel;by_cases aa:k<n;have az:(k:Int)<(n:Int):=Ad;have aA:(0:Int)<=(k:Int):=Ad;have an:=ad k wr aa H V;skip;go_wp2_with fail
  refine an.mono ?_;rintro e w2⟨rfl,ab,J⟩;have u:=Au.J J Z (λe=>by have:=U;have e:w=gf:=e;omega);have ao:=N0.trans H J;have aB:=u.frozen k;have aC:w2.cell? ⟨w,k,none⟩=some ():=by rw[u.cell k];simp[Cu,aa]
  have O:=u.ad k (f k);rw[IC f]at O;have aq:=O;have au:(Aq (w2.setCell ⟨w,k,none⟩ (f k)) gf 4 #[true]):=ab.grown (IQ w2 w k _) (λe=>by have:=U;have e:gf=w:=xg e;omega);clear u O J ab;go_wp2;go_roundw;case rel=>exact⟨k+1,by go_num,Ad,Au.setCell (F:=λb=>b=gf) ao (p:=⟨w,k,none⟩) (.inr (zs _)) _,au,aq⟩
  case measure=>simp[intOf];omega
  obtain rfl:k=n:=Ad;skip;go_wp2;go_ret;have hb:=Z;rw[IG]at hb;have ac:=Gr hb Ca;have av:((List.range k).map f).length=k:=AG;rw[av]at ac;exact⟨rfl,ac,V,H⟩
def Ra(ze:Nat->Nat)(n:Nat):An:=(List.range (n+1)).map λk=>((ze k:Nat):Int)
def WJ(n S:Nat)(A:AD)(E c:Nat)(T:List Bool)(ze:Nat->Nat)(w:Aj)(aa:n<=4)(ab:1<=S/\S<=32)(h:Bw w A E T)(af:T.length=BJ n S) (ag:∀k,k<=n->ze k<S)(ah:∀k,k<=n->∀b,b<S->Gi T (Dd n S k b)=decide (ze k=b)):AC 36 #[.agg #[n,S],.slice A E c] w λe w'=>∃(D:AD)(k c':Nat),e=.returned (.tuple #[.slice D k c',true])/\AB w' D k (Ra ze n)/\Ae w w':=by
 have O:Ae w ((w.alloc (.cells #[n,S] 67)).alloc (.cells #[.slice A E c] 38)):=((Ae.refl _).alloc _).alloc _;have hb:=(Aq.new w 67 #[n,S]).alloc (.cells #[.slice A E c] 38);have U:=Aq.new (w.alloc (.cells #[n,S] 67)) 38 #[.slice A E c];rw[z3]at U;generalize ao:(w.alloc (.cells #[n,S] 67)).alloc (.cells #[.slice A E c] 38)=ac at *;have ad:=λW(u:Ae ac W)=>u.cell (hb.cell 0);have aq:=λW(u:Ae ac W)=>u.cell (hb.cell 1);have au:=λW(u:Ae ac W)=>u.cell (U.cell 0);have aj:E=BJ n S:=by have:=h.1;omega
 have av:=λW=>EL n S W aa ab;have ak:=λW=>LZ n S W aa ab;rw[<-aj]at ak;have H:=h.ext O;have aw:=O;have ae:=hb;have ax:=U;have ay:=zk ah;have az:=zk af;clear h O hb U ah af aj;go_enter func36,ntmps36;go_wp2;refine AL AJ ?_;(repeat first|apply Bg rfl (λW u=>Am) Am|apply AS rfl Am);apply Bu (λW u=>av W) rfl (λW u=>by go_simp) Am;(repeat first|apply Bg rfl (λW u=>Am) Am|apply AS rfl Am);apply Bu (λW u=>ak W) rfl (λW u=>by go_simp) Am;(repeat first|apply Bg rfl (λW u=>Am) Am|apply AS rfl Am);refine AN λW J=>?_;have ad:W.cell? w=some n:=J.cell (ae.cell 0);clear aq au ao;have al:=Aq.new W 4 #[true];have V:Ae W (W.alloc (.cells #[true] 4)):=(Ae.refl _).alloc _;generalize aA:W.alloc (.cells #[true] 4)=wf at *;have aB:wf.cell? w=some n:=V.cell ad;have aC:=Abc (n+1) 100 w ⟨w+1,0,none⟩ W W (λk=>((ze k:Nat):Int)) wf Ad al (λargs W=>by go_simp) (λk W' am aD aE=>by have Z:Ae W W':=Au.ext (Au.ay V aD) (λb e=>aa6 e.symm);exact Aeg n S k (ze k) A E c T w (w+1) W W' aa ab Ad (ag k Ad) (H.ext (J.trans Z)) az (ay k Ad) ((J.trans Z).cell (ae.cell 0)) ((J.trans Z).cell (ae.cell 1)) ((J.trans Z).cell (ax.cell 0)) aE);have aF:=V;clear al V ad;go_wp2_with fail
 refine aC.mono ?_;rintro e aG⟨rfl,aH,an,aI⟩;have aK:aG.cell? W=some true:=an.cell 0;clear an aB aA;go_wp2;go_ret2;obtain⟨D,k,c',e,aJ⟩:=aH.aC Ca (λx O=>by obtain⟨k,am,rfl⟩:=zw.1 O;have:=ag k (by have:=zv.1 am;omega);omega);cases e;exact⟨_,_,_,rfl,aJ,aw.trans (J.trans (Au.ext (Au.ay aF aI) (λb e=>aa6 e.symm)))⟩
def Yu(B:AD)(m d:Nat)(l:List AZ)(D:AD)(c:Nat)(xs:An)(M:AD)(e:Nat)(ad:List Bool)(w:Aj)(H:Bx w B m l)(au:AB w D m xs)(av:Bw w M m ad)(aC:m<=4) (E:∀i,i<m->Bd xs (i:Int)=true)(hb:∀i,i<m->(opAt l i).an≠-1->ad[i]? =some true):AC 171 #[.slice B m d,.slice D m c,.slice M m e] w λe w'=>e=.returned true/\Ae w w':=by
 have aw:=zk E;have ax:=zk hb;clear E hb;go_enter func171,ntmps171;go_wp2;go_loopw[23](λv wr=>∃j:Nat,v=j/\j<=m/\Ae w wr)(λv _=>m-(intOf v).toNat);case atStart=>exact⟨0,rfl,zx _,Ae.refl _⟩
 case round=>
  obtain⟨j,rfl,aD,O⟩:=hrel;by_cases T:j<m
  . obtain⟨aE,Z,aa,ab,u,rs,rfl,ae,af,ag,ah,aj,ak⟩:=(H.ext O).at_ T;have al:=EO ae;have U:=ax j T;rw[al]at U;dsimp only at U;have aF:(j:Int)<(m:Int):=Ad;have aG:(0:Int)<=(j:Int):=Ad;have V:Ae wr (wr.alloc (.cells #[Z,aa,ab,u,rs] 96)):=(Ae.refl wr).alloc _;have am:=Aq.new wr 96 #[Z,aa,ab,u,rs];generalize an:wr.alloc (.cells #[Z,aa,ab,u,rs] 96)=ay at *;have ac:=O.trans V;have ao:=EF D m c xs (j:Int) ay (au.ext (O.trans V));rw[aw j T]at ao;have d3:=am.cell 3;have az:=zk U;clear ae am al U;go_wp2_with fail
    refine ao.mono ?_;rintro e aH⟨rfl,rfl⟩;by_cases J:u=-1
    . have aA:(u !=-1)=false:=by simpa using J
      clear J V;go_wp2;clear an af ag ah aj ak d3;go_roundw;case rel=>exact⟨j+1,by go_num,Ad,ac⟩
      case measure=>simp[intOf];omega
    . have aA:(u !=-1)=true:=by simpa using J
      obtain⟨aI,x,rfl,E,aB⟩:=(av.ext ac).at_ T;have aq:=E.out;rw[az J]at aq;cases aq;clear J E V;go_wp2;clear an af ag ah aj ak d3 aB;go_roundw;case rel=>exact⟨j+1,by go_num,Ad,ac⟩
      case measure=>simp[intOf];omega
  . obtain rfl:m=j:=Ad;skip;go_wp2;go_ret;exact⟨rfl,O⟩
