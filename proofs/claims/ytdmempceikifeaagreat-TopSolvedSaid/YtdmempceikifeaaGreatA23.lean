import Derived.Test.YtdmempceikifeaaGreatA21
import Derived.Test.YtdmempceikifeaaGreatA22
import Derived.Test.YtdmempceikifeaaGreatA11
import Derived.Deep.LoopGhost
set_option maxRecDepth 100000
set_option maxHeartbeats 16000000
set_option linter.all false
namespace Go.Proofs.YtdmempceikifeaaGreat
open Go.RowKit Tryz
def AeO(u E H:Int)(w:Aj):AC 28 #[.agg #[u,E,H]] w λe w'=>e=.returned (.int .i64 (max 1 (min u 1000000)))/\Ae w w':=by go_enter func28,ntmps28;go_wp2;go_ret;exact⟨rfl,by grind⟩
def Ae8(g:Nat):Aw:=.func (.func 142) #[] #[.pointer g]
def Zw(p:Nat)(w:Aj)(e:Bz)(w':Aj):Prop:=∃g,e=.returned (Ae8 g)/\w'.cell? g=some (.pointer p)/\w<=g/\g<w'/\Ae w w'
def Yq(p:Nat)(w:Aj):AC 83 #[.pointer p] w (Zw p w):=by go_enter func83,ntmps83;go_wp2;go_ret;exact⟨w,rfl,(Aq.new w _ _).cell 0,zs _,AG,by grind⟩
def Afr(kind zi:Int)(A:AD)(n c:Nat)(P:List Cz)(w:Aj)(e:Bz)(w':Aj):Prop:=∃B m d,e=.returned (.agg #[kind,zi,.slice A n c,.slice B m d])/\(kind=2->∀W,Au (λb=>b<w) w' W->DP W B m P)/\Ae w w'
def O9(kind:Int)(A:AD)(n c g:Nat)(P:Aj->Prop)(ak w:Aj)(Z:Cr)(zb:Nat)(L:AT)(E:Cv)(X:CW)(N:Dy)(al:An)(ab:BE P ak w Z zb L E X N al)(aq:E.P.length<=1000000000)(au:∀z∈E.P,z.lits.length<=1000000/\z.hints.length<=1000000) (am:w.cell? g=some (.pointer Z.e)):AC 142 #[kind,.slice A n c,.pointer g] w (Afr kind X.conflicts A n c E.P w):=by
 have ac:=ab.ae.cell 4;have ad:=ab.ae.cell 13;unfold Bc at ac ad;have T:Ae w (w.alloc (.cells #[(),(),AI,AI] 41)):=(Ae.refl _).alloc _;have J:=Aq.new w 41 #[(),(),AI,AI];have an:=Ti (w.alloc (.cells #[(),(),AI,AI] 41)) Z.e Z.Y.q X.conflicts (T.cell ac) (T.cell ad);have ae:=T.cell am;have ao:w<(w.alloc (.cells #[(),(),AI,AI] 41)).heap.size:=AG;generalize aE:w.alloc (.cells #[(),(),AI,AI] 41)=H at *;have af:=T;clear ac ad am T;by_cases U:kind=2
 . subst U;go_enter func142,ntmps142;go_wp2_with fail
   refine an.mono ?_;rintro e av⟨rfl,rfl⟩;have aw:=Aq.new H 41 #[.int .i64 2,X.conflicts,.slice A n c,AI];have V:Ae H (H.alloc (.cells #[.int .i64 2,X.conflicts,.slice A n c,AI] 41)):=(Ae.refl _).alloc _;have ax:=V.cell ae;skip;go_wp2_with fail
   refine(AaY P ak _ Z zb L E X N al (ab.ext (af.trans V)) aq au).mono ?_;rintro e w2⟨B,m,d,rfl,ay,ag⟩;have O:=J.ext (V.trans ag);have u:=aw.ext ag;have aF:=O.cell 0;have aG:=O.cell 1;have aH:=O.cell 2;have aI:=O.cell 3;have f0:=O.frozen 0;have f1:=O.frozen 1;have f2:=O.frozen 2;have f3:=O.frozen 3;have d0:=u.cell 0;have d1:=u.cell 1;have d2:=u.cell 2;have d3:=u.cell 3;have aJ:=u.frozen 3;have az:w.heap.size≠H.heap.size:=by omega
   have aK:H≠w.heap.size:=by omega
   have aA:=ao;clear u ae ax ao;go_wp2;have aa:=((((((Au.refl (λb=>b=w\/b=H) w2).setCell (p:=⟨H,3,none⟩) (.inl (.inr rfl)) (.slice B m d)).setCell (p:=w) (.inl (.inl rfl)) (.int .i64 2)).setCell (p:=⟨w,1,none⟩) (.inl (.inl rfl)) X.conflicts).setCell (p:=⟨w,2,none⟩) (.inl (.inl rfl)) (.slice A n c)).setCell (p:=⟨w,3,none⟩) (.inl (.inl rfl)) (.slice B m d));have aB:=((Au.refl (λb=>b=H.heap.size) w2).setCell (p:=⟨H.heap.size,3,none⟩) (.inl rfl) (.slice B m d)).J O az;have ah:=(((aB.ad 0 (.int .i64 2)).ad 1 (.int .i64 X.conflicts)).ad 2 (.slice A n c)).ad 3 (.slice B m d);refine yw (xq rfl _ _ w 41 #[.int .i64 2,X.conflicts,.slice A n c,.slice B m d] (0,0) _ rfl ah underlying41 rfl AJ) rfl ?_;have aC:=af.trans (V.trans ag);have aL:=aA;refine⟨B,m,d,rfl,λ_ W aD=>ay W ((aa.mono (λj _ aj=>?_)).trans (aD.mono (λj _ aj=>?_)) (λj _ aj=>aj)),(Au.ay aC aa).ext (λb hb=>?_)⟩;show j<_;simp;omega;show j<_;simp;omega
   . omega
 . have aM:decide (kind=2)=false:=zn U;have aN:(kind==2)=false:=by simpa using U
   go_enter func142,ntmps142;go_wp2_with fail
   refine an.mono ?_;rintro e av⟨rfl,rfl⟩;have u:=Aq.new H 41 #[kind,X.conflicts,.slice A n c,AI];clear ae;have d0:=u.cell 0;have d1:=u.cell 1;have d2:=u.cell 2;have d3:=u.cell 3;have aO:=J.cell 0;have aP:=J.cell 1;have aQ:=J.cell 2;have aR:=J.cell 3;have aS:=J.frozen 0;have aT:=J.frozen 1;have aU:=J.frozen 2;have aV:=J.frozen 3;clear u;go_wp2;have ah:=((((J.ad 0 kind).ad 1 X.conflicts).ad 2 (.slice A n c)).ad 3 AI).alloc (.cells #[kind,X.conflicts,.slice A n c,AI] 41);refine yw (xq rfl _ _ w 41 #[kind,X.conflicts,.slice A n c,AI] (0,0) _ rfl ah underlying41 rfl AJ) rfl ?_;have aa:=(((((Au.refl (λb=>b=w) H).setCell (p:=w) (.inl rfl) kind).setCell (p:=⟨w,1,none⟩) (.inl rfl) X.conflicts).setCell (p:=⟨w,2,none⟩) (.inl rfl) (.slice A n c)).setCell (p:=⟨w,3,none⟩) (.inl rfl) AI);exact⟨none,0,0,rfl,λe=>absurd e U,((Au.ay af aa).ext (λb hb=>Ad)).alloc _⟩
def Told.lens{L:AT}{P:List Cz}{A:List Cf}{id:Int}(h:Told L P A id):∀z∈P,z.lits.length<=1000000/\z.hints.length<=1000000:=λz H=>by obtain⟨k,J⟩:=z0 H;have E:=(h.run k z J).may;have O:=E.len;rcases E.k with⟨_,_,u⟩|⟨_,u⟩;have:=(Jl Ax u).1;omega;rw[u];simp;omega
def AfG{zb:Nat}{R:List AH}(h:R.length<zb):∃v:Int,1<=v/\v<=zb/\∀r∈R,Ak r.lit≠v:=by
 apply aad;intro u;have E:∀x∈(List.range zb).map (λk=>((k+1:Nat):Int)),x∈R.map (λr=>Ak r.lit):=λx H=>by obtain⟨k,J,rfl⟩:=zw.1 H;rw[zv]at J;apply aad;intro O;exact u ⟨((k+1:Nat):Int),Ad,Ad,λr T e=>O (zw.2 ⟨r,T,e⟩)⟩
 have U:((List.range zb).map (λk=>((k+1:Nat):Int))).Nodup:=x2.2 (aba.imp λV e=>V Ad);have:=yf U E;simp at this;omega
def Bw.ar{w:World}{A:Option Addr}{n:Nat}{xs:List Bool}(h:Bw w A n xs){p:Addr}(u:Value)(O:∀x,w.cell? p≠some (.bool x)):Bw (w.setCell p u) A n xs:=by refine⟨h.1,h.2.1,λT=>?_⟩;obtain⟨H,e,U⟩:=h.2.2 T;refine⟨H,e,λj x V=>?_⟩;have E:=U j x V;by_cases J:p=H.add j;rw[<-J]at E;exact absurd E (O x);rw[ab5 (h:=J)];exact E
def Ads(w:Aj)(g:Nat)(a b c d:Aw):Aj:=(((w.setCell g a).setCell ⟨g,1,none⟩ b).setCell ⟨g,2,none⟩ c).setCell ⟨g,3,none⟩ d
def Mz{w:Aj}{g:Nat}{t:TypeId}{a b c d a' b' c' d':Aw}(h:Aq w g t #[a',b',c',d']):Aq (Ads w g a b c d) g t #[a,b,c,d]:=(((h.ad 0 a).ad 1 b).ad 2 c).ad 3 d
def JG(w:Aj)(g:Nat)(a b c d:Aw):Au (λk=>k=g) w (Ads w g a b c d):=((((Au.refl (λk=>k=g) w).setCell (p:=g) (.inl rfl) a).setCell (p:=⟨g,1,none⟩) (.inl rfl) b).setCell (p:=⟨g,2,none⟩) (.inl rfl) c).setCell (p:=⟨g,3,none⟩) (.inl rfl) d
def R7{w:Aj}{g:Nat}{t:TypeId}{a b:Int}{A B:AD}{n c m d:Nat}{u1 u2 u3 u4:Aw}(h:Aq w g t #[a,b,.slice A n c,.slice B m d]){Y:AD}{k:Nat}{xs:List Bool}(hb:Bw w Y k xs):Bw (Ads w g u1 u2 u3 u4) Y k xs:=by have u:=h.ad 0 u1;have E:=u.ad 1 u2;refine(((hb.ar u1 λx e=>?_).ar u2 λx e=>?_).ar u3 λx e=>?_).ar u4 λx e=>?_;have:=(h.cell 0).symm.trans e;cases this;have:=(u.cell 1).symm.trans e;cases this;have:=(E.cell 2).symm.trans e;cases this;have:=((E.ad 2 u3).cell 3).symm.trans e;cases this
def Us(zb:Nat)(L:AT)(u:Int)(H:Aj)(e:Bz)(w':Aj):Prop:=∃(kind zi:Int)(A:AD)(n c:Nat)(B:AD)(m d:Nat),e=.returned (.agg #[kind,zi,.slice A n c,.slice B m d])/\Ae H w'/\(kind=1/\(∃E,Bw w' A n E/\E.length=zb/\Db L E<0)\/kind=2/\(∃P,(∀W,Au (λb=>b<H) w' W->DP W B m P)/\MW zb L P/\(P.length:Int)<=2*u+1)\/kind=3/\zi=u/\(1<=u->Qo L))
structure AbP(P:Aj->Prop)(w0:Aj)(zb:Nat)(L:AT)(e:Nat)(budget ag:Int)(wr:Aj)(Z:Cr)(E:Cv)(X:CW)(N:Dy)(bs:An):Prop where
 e:Z.e=e
 mem:BE P w0 wr Z zb L E X N bs
 inv:CC L zb E X
 cJ:X.conflicts<=budget
 pl:(E.P.length:Int)+(if ag<=X.conflicts then 1 else 0)<=2*X.conflicts+1
 aa:N.aa<=1000000000
 a7:(N.a7:Int)<=X.conflicts
def AbP.ak{P:Aj->Prop}{O wr:Aj}{zb e:Nat}{L:AT}{u H:Int}{Z:Cr}{E:Cv}{X:CW}{N:Dy}{T:An}(h:AbP P O zb L e u H wr Z E X N T):(E.P.length:Int)<=2*u+1:=by have J:=h.pl;have U:=h.cJ;by_cases g:H<=X.conflicts;rw[zq g]at J;omega;rw[zo g]at J;omega
def AbP.bx{P:Aj->Prop}{u wr:Aj}{zb e:Nat}{L:AT}{H J:Int}{Z:Cr}{E:Cv}{X:CW}{N:Dy}{O:An}(h:AbP P u zb L e H J wr Z E X N O):E.R.length<=zb/\zb<=900/\E.d<=zb:=by have T:=D5 h.inv.inv.az;have U:=Uf h.inv.inv.bX;have:=h.mem.bb.2;omega
def XK(P:Aj->Prop)(aa w:Aj)(Z:Cr)(zb:Nat)(L:AT)(E:Cv)(X:CW)(N:Dy)(bi:An)(unit U:Int)(h:BE P aa w Z zb L E X N bi)(bj:CC L zb E X)(bk:Ov zb L)(bn:L.length<=10000)(br:1<=unit/\unit<=1000000)(hb:0<=U/\U<=3000) (bt:X.conflicts=0)(bu:E.P=[])(bw:N.aa=64/\N.a7=0):AC 27 #[.pointer Z.e,unit,U] w (Us zb L U aa):=by
 have bx:=zk h;have cn:=zk bj;have co:=zk bk;have cp:=zk bn;have bz:=zk br;have ae:=zk hb;have aM:=zk bt;have cq:=zk bu;have bA:=zk bw;have bB:Ae w (w.alloc (.cells #[(),(),AI,AI] 41)):=(Ae.refl _).alloc _;have bC:=Aq.new w 41 #[(),(),AI,AI];have bD:w<(w.alloc (.cells #[(),(),AI,AI] 41)).heap.size:=AG;generalize dj:w.alloc (.cells #[(),(),AI,AI] 41)=cr at *;have bE:=zk bB;have cs:=zk bC;have dl:=zk bD;clear h bj bk bn br hb bt bu bw bB bC bD;go_enter func27,ntmps27;go_wp2;go_step3;go_wp2_with fail
 refine(Yq Z.e cr).mono ?_;rintro e ct⟨gt,rfl,bF,bG,bH,bI⟩;unfold Ae8;have cu:=zk bF;have cv:=zk bG;have cx:=zk bH;have bJ:=zk bI;clear bF bG bH bI;go_wp2_with fail
 refine(Qm 0 unit ct).mono ?_;rintro e w2⟨aV,rfl,aj,az⟩;have bK:0<aV:=by
  rcases aj with⟨T,_⟩|⟨_,m,_,T,_⟩;exact absurd T (by have:=bz.out;unfold Gm;omega)
  . exact T
 have bL:=bx.freeze (Q:=λW=>W.cell? gt=some (.pointer Z.e)/\Aq W w 41 #[(),(),AI,AI]) (bE.trans (bJ.trans az)) (λdm bM W bN=>by have cy:gt<w2:=x6 cx az.size;have cz:w<=gt:=z7 bE.size cv;refine⟨?_,bN.J (cs.ext (bJ.trans az)) (λe=>e (bM _ (zs _)))⟩;have T:=az.cell cu;have aA:=bN.block gt cy (λe=>e (bM _ cz));unfold World.cell? at T⊢;dsimp only at T⊢;rw[aA];exact T);have cA:=zk bL;have cB:=zk bK;clear aj az bK bL;go_wp2;go_step3;go_wp2;go_loopg[8](GD zb U 0 aV E.R.length)(λgk cC wr=>∃(ac:Int)(aB:Cr)(O:Cv)(H:CW)(ab:Dy)(af:An),cC=ac/\gk=GD zb U H.conflicts ac O.R.length/\AbP (λW=>P W/\W.cell? gt=some (.pointer Z.e)/\Aq W w 41 #[(),(),AI,AI]) aa zb L Z.e U ac wr aB O H ab af);case atStart=> refine⟨aV,Z,E,X,N,bi,rfl,by rw[aM.out],rfl,cA,cn,by rw[aM.out];exact ae.1,?_,by rw[bA.1];decide,by rw[bA.2,aM.out];decide⟩;rw[cq.out,aM.out,zo (by have:=cB.out;omega)];decide
 case round=>
  obtain⟨ac,aB,O,H,ab,af,rfl,bO,aC⟩:=hrel;have ak:=aC.mem.ae.cell 4;have aN:=aC.mem.ae.cell 14;unfold Bc at ak aN;rw[aC.e]at ak aN;have cD:=zk (Adq wr Z.e aB.Y.q H.aJ ak aN);have u:=zk aC;have aW:=zk bO;clear ak aN aC bO;go_wp2_with fail
  refine cD.mono ?_;rintro e cE⟨rfl,rfl⟩;have bP:=bx.1.size;have aX:=zk bP;clear bP;cases aD:H.aJ with
  |true=>
   have cF:=zk aD;clear aD;go_wp2_with fail
   refine(O9 2 none 0 0 gt _ aa wr aB zb L O H ab af u.mem (by have:=u.out.ak;have:=ae.out;omega) u.inv.told.lens (by rw[u.out.e];exact u.mem.here.2.1)).mono ?_;rintro e cE⟨B,m,d,rfl,bQ,bR⟩;have cG:=zk bQ;have bS:=zk bR;clear bQ bR;have J:=u.mem.here.2.2.ext bS;have d0:=J.cell 0;have d1:=J.cell 1;have d2:=J.cell 2;have d3:=J.cell 3;have f0:=J.frozen 0;have f1:=J.frozen 1;have f2:=J.frozen 2;have f3:=J.frozen 3;have ao:=zk J;clear J;go_wp2;try rw[x8]
   refine yw (xq rfl _ _ w 41 #[.int .i64 2,H.conflicts,AI,.slice B m d] (0,0) _ rfl (Mz ao) underlying41 rfl AJ) rfl ?_;have dn:=u.mem.here.2.2.lt;exact⟨2,H.conflicts,none,0,0,B,m,d,rfl,(Au.ay (u.mem.1.trans bS) (JG _ _ _ _ _ _)).ext (λb e=>by rw[e];exact aX),.inr (.inl ⟨rfl,O.P,λW cH=>cG trivial W (((JG _ _ _ _ _ _).mono (λj _ e=>by have e:j=w:=e;show j<wr;omega)).trans (cH.mono (λj _ aO=>by have aO:j<aa:=aO;have:=u.mem.1.size;show j<wr;omega)) (λj _ aO=>aO)),u.inv.told.accepted co (by rw[<-u.out.inv.aJ];exact cF),u.ak⟩)⟩
  |false=>
   have aY:=AcB _ aa wr aB zb L O H ab af u.mem u.inv aD;rw[u.out.e]at aY;have cI:=zk aY;have aq:=zk aD;clear aY aD;go_wp2_with fail
   refine cI.mono ?_;rintro e aE⟨r,am,aF,cJ,rfl,bT,aP,bU,bV⟩;have aZ:am.e=Z.e:=bT.trans u.e;have ak:=aP.ae.cell 4;have aQ:=aP.ae.cell 13;unfold Bc at ak aQ;rw[aZ]at ak aQ;have a1:=zk (Ti aE Z.e am.Y.q H.conflicts ak aQ);have V:=zk aP;have ag:=zk bV;have cK:=zk bU;have ah:=zk aZ;clear bT aZ aP bU bV ak aQ;by_cases au:r<0
   . have an:decide (r<0)=true:=zt au;rw[an]at V ag;rw[an];have aR:=zk au;clear au an;go_wp2_with fail
     refine a1.mono ?_;rintro e bW⟨rfl,rfl⟩;by_cases aj:ac<=H.conflicts
     . have a5:decide (ac<=H.conflicts)=true:=zt aj;have a6:=zk aj;clear aj;go_wp2_with fail
       refine a1.mono ?_;rintro e bW⟨rfl,rfl⟩;go_wp2_with fail
       refine(Qm H.conflicts unit aE).mono ?_;rintro e av⟨aS,rfl,bX,ad⟩;have bY:H.conflicts<aS:=by
        rcases bX with⟨T,_⟩|⟨_,m,_,T,_⟩;exact absurd T (by have:=bz.out;have:=u.out.inv.cm;have:=u.out.cJ;have:=ae.out;unfold Gm;omega)
        . exact T
       have a7:=VJ _ aa av am zb L _ _ ab af (V.ext ad) ag aq (by have:=u.out.bx;show O.d<=_;omega);rw[ah.out]at a7;have cL:=zk a7;have bZ:=zk bY;clear bX bY ad a7;go_wp2_with fail
       refine cL.mono ?_;rintro e a8⟨rfl,aG,ze,aw,al,aH,b0,b1⟩;have aI:=ag.back (k:=0) (aat _) ag.inv.az.d0 b0 b1;have a9:=YT _ aa a8 aG zb L _ _ ab aw aH aI aq (by show(-1:Int)<0;omega) rfl (by have:=u.out.ak;have:=ae.out;show O.P.length<=_;omega);rw[al,ah.out]at a9;have cM:=zk a9;have aJ:=zk (al.trans ah);clear al aH b0 b1 aI a9;go_wp2_with fail
       refine cM.mono ?_;rintro e dp⟨dq,cN,aT,rfl,b2,b3,b4,b5⟩;have cO:=zk b3;have cP:=zk b4;have cQ:=zk (b2.trans aJ);have cR:=zk (show aT.P.length<=O.P.length+1 from b5);clear b2 b3 b4 b5;go_wp2;go_roundg(GD zb U H.conflicts aS aT.R.length);case measure=>rw[aW.out];exact TI Ad a6 bZ
       case rel=> refine⟨aS,cN,aT,{H with conflict:=-1,calm:=false},ab,aw,rfl,rfl,⟨cQ,cO,cP,u.cJ,?_,u.aa,u.a7⟩⟩;have T:=u.out.pl;have aA:=a6.out;have cS:=bZ.out;have dr:=cR.out;show(aT.P.length:Int)+(if aS<=H.conflicts then 1 else 0)<=2*H.conflicts+1;rw[zq aA]at T;rw[zo Ad];omega
     . have a5:decide (ac<=H.conflicts)=false:=zn aj;have a6:=zk aj;clear aj;have ba:=Acg _ aa aE am zb L _ _ ab af V ag rfl aq aR;rw[ah.out]at ba;have cT:=zk ba;clear ba;go_wp2_with fail
       refine cT.mono ?_;rintro e av(⟨aK,rfl,ad⟩|⟨aK,A,n,c,m,rfl,b6,b7,b8,ad⟩)
       . have bc:=Zu _ aa av am zb L _ _ ab af (V.ext ad) ag rfl aq.out aR.out (AfG aK) (by have:=u.out.bx;show O.d<=_;omega);rw[ah.out]at bc;have cU:=zk bc;have cV:=zk (show aF.length<zb from aK);clear bc aK ad;go_wp2_with fail
         refine cU.mono ?_;rintro e a8⟨rfl,aG,ze,aw,y,al,aH,aI⟩;have cW:=zk aH;have cX:=zk aI;have aJ:=zk (al.trans ah);clear al aH aI;go_wp2;go_roundg(GD zb U H.conflicts ac (aF++[(⟨y,O.d+1,-1⟩:AH)]).length);case measure=>
          rw[aW.out];have T:O.R.length<=aF.length:=by obtain⟨ds,e,_⟩:=cK;rw[e,zu];omega
          have aA:=cV.out;exact VY Ca Ad
         case rel=>exact⟨ac,aG,{O with R:=aF++[⟨y,O.d+1,-1⟩],d:=O.d+1,W:=cJ,seen:=Az aF,row:=ze},{H with conflict:=r,calm:=false},ab,aw,rfl,rfl,⟨aJ,cW,cX,u.cJ,u.pl,u.aa,u.a7⟩⟩
       . have cY:=zk b6;have cZ:=zk b7;have c0:=zk b8;have ax:=zk ad;clear aK b6 b7 b8 ad;go_wp2_with fail
         refine(O9 1 A n c gt _ aa av am zb L _ _ ab af (V.ext ax) (by have:=u.out.ak;have:=ae.out;show O.P.length<=_;omega) ag.told.lens (by rw[ah.out];exact ax.cell V.here.2.1)).mono ?_;rintro e a8⟨B,b9,d,rfl,_,bd⟩;have cc:=zk (ax.trans bd);have c9:=zk bd;clear bd;have J:=V.here.2.2.ext cc;have d0:=J.cell 0;have d1:=J.cell 1;have d2:=J.cell 2;have d3:=J.cell 3;have f0:=J.frozen 0;have f1:=J.frozen 1;have f2:=J.frozen 2;have f3:=J.frozen 3;have ao:=zk J;clear J;go_wp2;try rw[x8]
         refine yw (xq rfl _ _ w 41 #[AF,H.conflicts,.slice A n c,.slice B b9 d] (0,0) _ rfl (Mz ao) underlying41 rfl AJ) rfl ?_;exact⟨1,H.conflicts,A,n,c,B,b9,d,rfl,(Au.ay (V.1.trans cc) (JG _ _ _ _ _ _)).ext (λb e=>by rw[e];exact aX),.inl ⟨rfl,m,R7 ao (cY.ext c9),cZ,c0⟩⟩
   have an:decide (r<0)=false:=zn au;rw[an]at V ag;rw[an];have aR:=zk au;clear au an;go_wp2_with fail
   refine a1.mono ?_;rintro e bW⟨rfl,rfl⟩;by_cases ay:U<=H.conflicts
   . have a5:decide (U<=H.conflicts)=true:=zt ay;have aL:=zk ay;clear ay;go_wp2_with fail
     refine(O9 3 none 0 0 gt _ aa aE am zb L _ _ ab af V (by have:=u.out.ak;have:=ae.out;show O.P.length<=_;omega) ag.told.lens (by rw[ah.out];exact V.here.2.1)).mono ?_;rintro e av⟨B,m,d,rfl,_,ad⟩;have ax:=zk ad;clear ad;have J:=V.here.2.2.ext ax;have d0:=J.cell 0;have d1:=J.cell 1;have d2:=J.cell 2;have d3:=J.cell 3;have f0:=J.frozen 0;have f1:=J.frozen 1;have f2:=J.frozen 2;have f3:=J.frozen 3;have ao:=zk J;clear J;go_wp2;try rw[x8]
     refine yw (xq rfl _ _ w 41 #[.int .i64 3,H.conflicts,AI,.slice B m d] (0,0) _ rfl (Mz ao) underlying41 rfl AJ) rfl ?_;have ce:H.conflicts=U:=by have:=aL.out;have:=u.out.cJ;omega
     exact⟨3,H.conflicts,none,0,0,B,m,d,rfl,(Au.ay (V.1.trans ax) (JG _ _ _ _ _ _)).ext (λb e=>by rw[e];exact aX),.inr (.inr ⟨rfl,ce,λda=>u.inv.cW (by rw[ce];exact da) aq⟩)⟩
   have a5:decide (U<=H.conflicts)=false:=zn ay;have aL:=zk ay;clear ay;have hid:O.id=L.length+H.conflicts:=u.out.inv.cB;have be:=VU _ aa aE am zb L _ _ ab af V ag aq (by have:=aR.out;show 0<=r;omega) u.aa (by have:=aL.out;have:=ae.out;have:=cp.out;show O.id<_;omega) (by have:=u.out.cJ;have:=ae.out;show H.conflicts<=_;omega) (by have:=u.out.ak;have:=ae.out;show O.P.length<=_;omega) (by have:=u.out.a7;have:=u.out.cJ;have:=ae.out;omega);rw[ah.out]at be;have dc:=zk be;clear hid be;go_wp2_with fail
   refine dc.mono ?_;rintro e av⟨rfl,aG,bf,bh,dd,aw,al,cf,cg,ch,ci,cj,cm⟩;have de:=zk cf;have df:=zk cg;have aU:=zk (show bh.conflicts=H.conflicts+1 from ch);have dg:=zk (show bf.P.length=O.P.length+1 from ci);have dh:=zk cj;have di:=zk cm;have aJ:=zk (al.trans ah);clear al cf cg ch ci cj cm;go_wp2;go_roundg(GD zb U bh.conflicts ac bf.R.length);case measure=>rw[aW.out,aU.out];exact Ud Ad (by have:=aL.out;omega)
   case rel=> refine⟨ac,aG,bf,bh,dd,aw,rfl,rfl,⟨aJ,de,df,by have:=aU.out;have:=aL.out;omega,?_,dh,by have:=di.out;have:=u.out.a7;have:=aU.out;omega⟩⟩;have T:=u.out.pl;have aA:=aU.out;have cS:=dg.out;(repeat' split at T)<;>split<;>omega
def Wz:Aw:=.agg #[(),(),AI,AI]
def AcJ(zb:Nat)(L:AT)(u:Int)(w:Aj)(e:Bz)(w':Aj):Prop:=(u<0/\e=.returned (.tuple #[Wz,.int .i64 2])/\Ae w w')\/(0<=u/\∃v,e=.returned (.tuple #[v,()])/\Us zb L u w (.returned v) w')
def Sw(zb:Nat)(A:AD)(n c:Nat)(L:AT)(u H J T:Int)(w:Aj)(h:Bf w A n L)(aH:n<=c)(ab:Ov zb L)(aI:zb<=900)(av:L.length<=10000) (ag:∀c∈L,c.Nodup/\(∀x∈c,AV x zb=0)/\M8 c 100000/\c.length<=1000)(aY:-9223372036854775808<=u/\u<=Bh)(aJ:-9223372036854775808<=H/\H<=Bh)(aK:-9223372036854775808<=J/\J<=Bh)(ac:T<=3000):AC 7 #[.agg #[zb,.slice A n c],.agg #[u,H,J],T] w (AcJ zb L T w):=by
 by_cases V:T<0
 . have aL:decide (T<0)=true:=zt V;clear h ab ag;go_enter func7,ntmps7;go_wp2;have ac:=Aq.new ((w.alloc (.cells #[zb,.slice A n c] 34)).alloc (.cells #[u,H,J] 27)) 41 #[(),(),AI,AI];rw[z3,z3]at ac;refine yw (CS rfl _ _ (w+1+1) 41 #[(),(),AI,AI] (0,0) _ rfl ac underlying41 rfl AJ) rfl ?_;exact .inl ⟨V,rfl,by grind⟩
 . have aL:decide (T<0)=false:=zn V;have aZ:decide (1000000<T)=false:=zn Ad;have ah:Ae w (((w.alloc (.cells #[zb,.slice A n c] 34)).alloc (.cells #[u,H,J] 27)).alloc (.cells #[(),(),AI,AI] 41)):=(((Ae.refl _).alloc _).alloc _).alloc _;have U:=(Aq.new (w.alloc (.cells #[zb,.slice A n c] 34)) 27 #[u,H,J]).alloc (.cells #[(),(),AI,AI] 41);have aj:=Aq.new ((w.alloc (.cells #[zb,.slice A n c] 34)).alloc (.cells #[u,H,J] 27)) 41 #[(),(),AI,AI];have ak:=((Aq.new w 34 #[zb,.slice A n c]).alloc (.cells #[u,H,J] 27)).alloc (.cells #[(),(),AI,AI] 41);rw[z3]at U;rw[z3,z3]at aj;generalize a1:((w.alloc (.cells #[zb,.slice A n c] 34)).alloc (.cells #[u,H,J] 27)).alloc (.cells #[(),(),AI,AI] 41)=ad at *;have a0:=ak.cell 0;have a5:=ak.cell 1;have aw:=U.cell 0;have ax:=U.cell 1;have ay:=U.cell 2;have az:=ah;have al:=U;have aA:=aj;have aM:=Ags zb A n c L u H J ad (h.ext ah) aH ab aI av ag aJ aK;have aN:=zk ab;clear h ab ag ah ak U aj;go_enter func7,ntmps7;go_wp2_with fail
   refine aM.mono ?_;rintro e aO⟨Z,E,X,N,rfl,ae,aP,aB,_,_,aC,_,_,aD,aE⟩;have aw:=ae.1.cell (al.cell 0);have ax:=ae.1.cell (al.cell 1);have ay:=ae.1.cell (al.cell 2);have aQ:=zk aB;have aR:=zk aC;have aS:=zk (And.intro aD aE);clear aB aC aD aE;go_wp2_with fail
   refine(AeO u H J aO).mono ?_;rintro e w2⟨rfl,aT⟩;skip;go_wp2_with fail
   refine(XK _ ad w2 Z zb L E X N [] (max 1 (min u 1000000)) T (ae.ext aT) aP aN av Ad ⟨by have:=V;omega,ac⟩ aQ aR aS).mono ?_;rintro e aU⟨kind,zi,am,an,ao,B,m,d,rfl,aF,aV⟩;have O:=aA.ext aF;have d0:=O.cell 0;have d1:=O.cell 1;have d2:=O.cell 2;have d3:=O.cell 3;have f0:=O.frozen 0;have f1:=O.frozen 1;have f2:=O.frozen 2;have f3:=O.frozen 3;clear aw ax ay;go_wp2;refine yw (CS rfl _ _ (w+1+1) 41 #[kind,zi,.slice am an ao,.slice B m d] (0,0) _ rfl (Mz O) underlying41 rfl AJ) rfl ?_;have a6:=aA.lt;have aG:=JG aU (w+1+1) kind zi (.slice am an ao) (.slice B m d);refine .inr ⟨by have:=V;omega,_,rfl,kind,zi,am,an,ao,B,m,d,rfl,(Au.ay (az.trans aF) aG).ext (λb e=>by have e:b=w+1+1:=e;omega),?_⟩;rcases aV with⟨aa,aW,aq,au⟩|⟨aa,P,aq,au⟩|aa;exact .inl ⟨aa,aW,R7 O aq,au⟩;exact .inr (.inl ⟨aa,P,λW aX=>aq W ((aG.mono (λj _ e=>by have e:j=w+1+1:=e;show j<ad;omega)).trans (aX.mono (λj _ af=>by have af:j<w:=af;have:=az.size;show j<ad;omega)) (λj _ af=>af)),au⟩);exact .inr (.inr aa)
def Ahu:Prop:=∀W:Aj,AC 5 #[] W λe w'=>e=.returned true/\Ae W w'
def AcF{zc:List Ba}{l:List AZ}{zj:Int}{p:List (Nat×Int)}(h:p∈Ij zc l zj):p.length<=l.length:=by obtain⟨⟨s,u⟩,_⟩:=N6.1 h;obtain⟨E,H⟩:=Iv u;have:=yf E (λx J=>zv.2 (H x J).1);simpa using this
def Ad9{zc:List Ba}{l:List AZ}{zj:Int}(h:l.length<=4):(Ij zc l zj).length<=65:=z7 (List.length_filterMap_le ..) (W6 _ h)
def Ah7(ab:Ahu)(S K zj:Int)(A:AD)(n c:Nat)(zc:List Ba)(B:AD)(m d:Nat)(l:List AZ)(an ao aq J:Int)(w:Aj)(h:Bi w A n zc)(a1:Bx w B m l)(ci:Bj S)(cj:Bj K)(cm:∀x∈l,Bj x.st/\Bj x.an/\Bj x.aD)(cn:Bj an)(co:Bj ao)(a5:Bj aq):AC 3 #[.agg #[S,K,zj,.slice A n c],.slice B m d,.agg #[an,ao,aq,J]] w λe w'=>e=.returned true/\Ae w w':=by
 have aR:Ae w ((w.alloc (.cells #[S,K,zj,.slice A n c] 24)).alloc (.cells #[an,ao,aq,J] 29)):=((Ae.refl _).alloc _).alloc _;have hb:=(Aq.new w 24 #[S,K,zj,.slice A n c]).alloc (.cells #[an,ao,aq,J] 29);have a6:=Aq.new (w.alloc (.cells #[S,K,zj,.slice A n c] 24)) 29 #[an,ao,aq,J];rw[z3]at a6;generalize cp:(w.alloc (.cells #[S,K,zj,.slice A n c] 24)).alloc (.cells #[an,ao,aq,J] 29)=bA at *;have ac:=hb.cell 0;have ad:=hb.cell 1;have ae:=hb.cell 2;have af:=hb.cell 3;have bB:=h.ext aR;have bC:=a1.ext aR;have ag:=aR;have O:=hb;have aA:=a6;have bD:=zk a1.len;clear h a1 aR hb a6;go_enter func3,ntmps3;go_wp2_with fail
 refine(AhU S K zj A n c bA).mono ?_;rintro e bE⟨rfl,U⟩;have ah:bE.cell? ⟨w+1,3,none⟩=some J:=U.cell (aA.cell 3);have ac:=U.cell (O.cell 0);have ad:=U.cell (O.cell 1);have ae:=U.cell (O.cell 2);have af:=U.cell (O.cell 3);clear cp;by_cases aj:n<=300;rotate_left
 . have d1:decide (n<=300)=false:=zn aj;rw[d1];clear aj d1;go_wp2_with fail
   refine(ab _).mono ?_;rintro e au⟨rfl,H⟩;skip;go_wp2;go_ret;exact⟨rfl,ag.trans (U.trans H)⟩
 have d1:decide (n<=300)=true:=zt aj;rw[d1];have bF:(n<=1000000000):=z7 aj Ax;by_cases ak:m<=4;rotate_left
 . have d2:decide ((4:Int)<(m:Int))=true:=zt Ad;clear aj d1 ak;go_wp2_with fail
   refine(ab _).mono ?_;rintro e au⟨rfl,H⟩;skip;go_wp2;go_ret;exact⟨rfl,ag.trans (U.trans H)⟩
 have d2:decide ((4:Int)<(m:Int))=false:=zn Ad;by_cases a7:J<=3000;rotate_left
 . have d3:decide (3000<J)=true:=zt Ad;clear aj d1 ak a7;go_wp2_with fail
   refine(ab _).mono ?_;rintro e au⟨rfl,H⟩;skip;go_wp2;go_ret;exact⟨rfl,ag.trans (U.trans H)⟩
 have d3:decide (3000<J)=false:=zn Ad;have cq:=zk ak;have bG:=zk a7;clear aj d1 a7;go_wp2_with fail
 refine(PR S K zj A n c zc B m d l bE (bB.ext U) (bC.ext U) bF ak ci cj cm).mono ?_;rintro e w2⟨cO,bH,rfl,a8,aS,⟨a2,aB,aC,aI,rfl,aT,a9⟩⟩;have aJ:Ae w2 (w2.alloc (.cells #[a2,.slice aB aC aI] 34)):=(Ae.refl _).alloc _;have av:=Aq.new w2 34 #[a2,.slice aB aC aI];generalize ba:w2.alloc (.cells #[a2,.slice aB aC aI] 34)=cr at *;have aw:=U.trans (a8.trans aJ);have cP:=av;have cQ:=zk aS;have cR:=zk aT;by_cases aK:bH=0;rotate_left
 . have cS:(bH !=0)=true:=by simpa using aK
   clear aK aS a8 aJ av a9 aT ac ad ae af ah;go_wp2_with fail
   refine(ab _).mono ?_;rintro e au⟨rfl,H⟩;skip;go_wp2;go_ret;exact⟨rfl,ag.trans (aw.trans H)⟩
 subst aK;obtain⟨aD,bc⟩:=aS.1 rfl;obtain⟨rfl,aL,_⟩:=a9 ⟨aD,bc⟩;obtain⟨E,rfl⟩:∃E:Nat,S=(E:Int):=⟨S.toNat,by have:=aD.1;omega⟩;obtain⟨u,rfl⟩:∃u:Nat,zj=(u:Int):=⟨zj.toNat,by have:=aD.2.2.1;omega⟩;have T:Dt bA E K u A n zc B m l:=⟨bB,bC,bF,ak,aD,bc⟩;have bd:u<E:=by have:=aD.2.2.1;omega
 have be:=bD.out;have aL:Bf w2 aB aC (DM zc l E u):=aL;have bI:((BJ l.length (E:Int).toNat:Nat):Int)=((BJ m E:Nat):Int):=by rw[be];rfl
 have bf:=KD (zc:=zc) (l:=l) (S:=E) (zj:=u) Ad T.bc.2;have aM:=Sf (zc:=zc) (l:=l) (S:=E) (zj:=u) Ad T.bc.2 bd T.ax bf;rw[be]at aM;have bJ:=FE ak T.bc.2;have cs:=Sw (BJ m E) aB aC aI (DM zc l E u) an ao aq J cr (aL.ext aJ) aT aM.1 Ad bf aM.2 cn co a5 bG;have bK:=aL.ext aJ;have cT:=zk aM;have bL:=zk bd;rw[bI]at av ba⊢;have f0:=av.cell 0;have f1:=av.cell 1;have bM:=aw.cell (aA.cell 0);have bN:=aw.cell (aA.cell 1);have bO:=aw.cell (aA.cell 2);have ah:=aw.cell (aA.cell 3);have bP:=av;clear aS a8 aJ av a9 aT ac ad ae af aD bc bd be aL bI bf aM bJ;go_wp2_with fail
 refine cs.mono ?_;rintro e ax ct;rcases ct with⟨bQ,rfl,ay⟩|⟨bR,cU,rfl,cu⟩
 . have cV:decide (J<0)=true:=zt bQ;unfold Wz;have al:Ae ax (ax.alloc (.cells #[(),(),AI,AI] 41)):=(Ae.refl _).alloc _;have cv:=aw.trans (ay.trans al);have ah:(ax.alloc (.cells #[(),(),AI,AI] 41)).cell? ⟨w+1,3,none⟩=some J:=al.cell (ay.cell ah);clear bQ ay al f0 f1 bM bN bO ba;go_wp2_with fail
   refine(ab _).mono ?_;rintro e au⟨rfl,H⟩;skip;go_wp2;go_ret;exact⟨rfl,ag.trans (cv.trans H)⟩
 obtain⟨kind,zi,aU,aV,aW,aN,aE,d4,cx,ay,bS⟩:=cu;cases cx;have am:=Aq.new ax 41 #[kind,zi,.slice aU aV aW,.slice aN aE d4];have al:Ae ax (ax.alloc (.cells #[kind,zi,.slice aU aV aW,.slice aN aE d4] 41)):=(Ae.refl _).alloc _;generalize cy:ax.alloc (.cells #[kind,zi,.slice aU aV aW,.slice aN aE d4] 41)=cz at *;have aF:=aw.trans (ay.trans al);have ac:=aF.cell (O.cell 0);have ad:=aF.cell (O.cell 1);have ae:=aF.cell (O.cell 2);have af:=aF.cell (O.cell 3);have cA:=am;have bT:=al;have bh:=ay.trans al;have cB:=zk bS;have cW:=zk bR;clear am al ay bS f0 f1 bM bN bO ah ba bR;go_wp2_with fail
 refine(AhZ E K u A n c zc B m d l cz (T.ext aF)).mono ?_;rintro e aO⟨cX,k,cY,rfl,aX,az⟩;have V:=aF.trans az;have am:=cA.ext az;have bU:=am.cell 0;have bV:=am.cell 1;have bi:=am.cell 2;have bj:=am.cell 3;have ah:aO.cell? ⟨w+1,3,none⟩=some J:=V.cell (aA.cell 3);have ac:=V.cell (O.cell 0);have ad:=V.cell (O.cell 1);have ae:=V.cell (O.cell 2);have af:=V.cell (O.cell 3);have f0:=(bP.ext (bh.trans az)).cell 0;have f1:=(bP.ext (bh.trans az)).cell 1;have Z:l.length<=4:=by have:=bD.out;have:=cq.out;omega
 clear am cy;rcases cB with⟨rfl,bk,bW,aP,bX⟩|⟨rfl,P,bY,bn,cC⟩|⟨rfl,rfl,_⟩
 . obtain⟨σ,ze,br⟩:=(PZ Z T.bc.2 bL T.ax bk).1 bX;have bZ:=AeM br;have a5:=Zf E u K A n c zc B m d l aU aV aW bk σ ze aO (T.ext V) (bW.ext (bT.trans az)) aP br;clear bW aP bX br bV bj ah f0 f1;generalize Gn zc l (Gi bk) σ ze=aa at *;have aP:∀p∈Ij zc l (u:Int),p.length<=4:=λp cD=>z7 (AcF cD) Z;have cE:=Ad9 (zc:=zc) (zj:=(u:Int)) Z;generalize Ij zc l (u:Int)=aG at *;have cF:Hid (k<=65):=zk (by have:=aX.1;omega);have b0:=zk bZ;have b1:=zk aP;clear bZ aP Z cE;go_wp2_with fail
   refine a5.mono ?_;rintro e b2⟨D,b3,cG,rfl,b4,aQ⟩;have cH:Hid (aG.length=k):=zk aX.1;clear bU bi ac ad ae af;go_wp2;go_loopw[14,15](λo i wr=>∃j:Nat,j<=k/\i=j/\o=.bool ((aG.take j).any λq=>decide (q=aa))/\Ae b2 wr)(λ_ i _=>k-(intOf i).toNat);case atStart=>exact⟨0,zx _,rfl,AG,Ae.refl _⟩
   case round=>
    obtain⟨j,cZ,rfl,rfl,aH⟩:=hrel;by_cases cI:j<k
    . obtain⟨c0,cJ,b5,d7,bt,rfl,bu,bw,bx⟩:=aX.2 j cI;have bw:=(aQ.trans aH).cell bw;have c9:(j:Int)<(k:Int):=Ad;have da:(0:Int)<=(j:Int):=Ad;have b6:wrap64 ((j:Int)+1)=((j+1:Nat):Int):=by rw[abk _ (by have:=cF.out;omega)];rfl
      have aY:=zk b6;clear b6;have b7:((aG.take (j+1)).any λq=>decide (q=aa))=(((aG.take j).any λq=>decide (q=aa))||decide (bt=aa)):=by rw[abj,bu,abx];simp
      have aZ:=zk b7;have b8:b5<=1000:=by have:=bx.len;have:=b1 bt (zm bu);omega
      have b9:b3<=1000:=by have:=b4.len;have:=b1 aa b0;omega
      have cc:=AdQ cJ b5 d7 bt D b3 cG aa wr (bx.ext (aQ.trans aH)) (b4.ext aH) b8 b9;clear bu b7 b8 b9 bx;cases hb:(aG.take j).any λq=>decide (q=aa)with
      |true=>
       rw[hb]at aZ;clear hb cc;go_wp2;go_roundw;case rel=>exact⟨j+1,Ad,by first|rw[aY.out]|go_num,by rw[aZ.out];rfl,aH⟩
       case measure=>rw[aY.out];simp[intOf];omega
      |false=>
       rw[hb]at aZ;clear hb;go_wp2_with fail
       refine cc.mono ?_;rintro e dc⟨rfl,ce⟩;have cK:=aH.trans ce;clear ce bw;go_wp2;go_roundw;case rel=>exact⟨j+1,Ad,by first|rw[aY.out]|go_num,by rw[aZ.out];rfl,cK⟩
       case measure=>rw[aY.out];simp[intOf];omega
    . obtain rfl:k=j:=Ad;have cf:((aG.take k).any λq=>decide (q=aa))=true:=by rw[z1 (aa6 cH)];exact y7.2 ⟨aa,b0,zt rfl⟩
      rw[cf];clear cf;go_wp2_with fail
      refine(ab _).mono ?_;rintro e au⟨rfl,cg⟩;have H:=aH.trans cg;clear cg;go_wp2;go_ret;exact⟨rfl,ag.trans (V.trans (aQ.trans H))⟩
 . have cL:=KD (zc:=zc) (l:=l) (S:=E) (zj:=u) Z T.bc.2;have bz:DP aO aN aE P:=bY aO (bT.trans az).stay;have cM:P.length=aE:=bz.1;have ch:Ij zc l (u:Int)=[]:=by rcases aK:Ij zc l (u:Int)with _|⟨p,t⟩;rfl;obtain⟨dd,aj,ak⟩:=ZX Z T.bc.2 bL T.ax (p:=p) (by rw[aK];exact yx ..);have bJ:=FE Z T.bc.2;exact absurd bn (Xd ak)
   obtain rfl:0=k:=by rw[<-aX.1,ch];rfl
   have cN:=N8 ((BJ m E:Nat):Int) aB aC aI (DM zc l E u) aN aE d4 P aO (bK.ext (bh.trans az)) bz (by have:=bK.1;omega) (by have:=bG.out;omega) bn;clear cL bz cM ch bY bn cC bV bi ah ac ad ae af Z;go_wp2_with fail
   refine cN.mono ?_;rintro e b2⟨rfl,aQ⟩;clear f0 f1 bU bj;go_wp2_with fail
   refine(ab _).mono ?_;rintro e au⟨rfl,H⟩;skip;go_wp2;go_ret;exact⟨rfl,ag.trans (V.trans (aQ.trans H))⟩
 . clear bi bj ac ad ae af f0 f1 Z;go_wp2_with fail
   refine(ab _).mono ?_;rintro e au⟨rfl,H⟩;skip;go_wp2;go_ret;exact⟨rfl,ag.trans (V.trans H)⟩
