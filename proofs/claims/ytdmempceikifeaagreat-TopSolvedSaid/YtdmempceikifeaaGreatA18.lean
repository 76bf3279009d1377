import Derived.Test.YtdmempceikifeaaGreatA17
import Derived.Laws.Rows
set_option maxRecDepth 100000
set_option maxHeartbeats 16000000
set_option linter.all false
namespace Go.Proofs.YtdmempceikifeaaGreat
open Go.RowKit Tryz
def Q4(R:List AH)(c:An)(w:Aj)(e:Bz)(w':Aj):Prop:=∃v,e=.returned (.agg #[.bool (CN R c),v])/\Ay w' w v (BX R c)/\Ae w w'
def XL{R:List AH}{c:An}{k:Nat}{l:Int}(h:c[k]? =some l):BX R (c.take (k+1))=BX R (c.take k)++if 0<=CJ R l then[l]else[]:=by unfold BX;rw[AM h,y5];congr 1;by_cases h:0<=CJ R l<;>simp[h]
def VT{R:List AH}{c:An}{k:Nat}{l:Int}(h:c[k]? =some l):CN R (c.take (k+1))=(CN R (c.take k)||CJ R l==1):=by unfold CN;rw[AM h,abx];simp
def RF{w s E:Aj}{f r za:Nat}{hb:Aw}{v u:Aw}{xs O:An}{l:Int}(T:Aq s f 385 #[hb,v])(U:Aq s r 385 #[false,AI])(aa:f≠r)(H:Ay s za v xs)(ab:Ae w s)(ac:w<=f)(ad:w<=za) (J:(s.alloc (.cells #[l] 3)).grownBy E v.ownBlock)(V:Ay E za u O):Aq (E.setCell ⟨f,1,none⟩ u) f 385 #[hb,u]/\Aq (E.setCell ⟨f,1,none⟩ u) r 385 #[false,AI]/\Ay (E.setCell ⟨f,1,none⟩ u) za u O/\Ae w (E.setCell ⟨f,1,none⟩ u):=by have Z:=Aq.grown (Aq.alloc T _) J (yb (H.ai T Ax));refine⟨Z.ad 1 u,(Aq.grown (Aq.alloc U _) J (yb (H.ai U Ax))).ar (λe=>aa e.symm) u,V.setCell (p:=⟨f,1,none⟩) (λk e=>by intro ae;exact(V.ai Z Ax) (by rw[e,ae])) u,?_⟩;exact((ab.alloc _).grown J (λk e=>z7 ad (H.J k e).1)).setCell (p:=⟨f,1,none⟩) ac u
def Py(w:Aj)(za p aM:Nat)(lv aN:Aw)(zb:Nat)(R:List AH)(aO:An)(q g:Nat)(A:AD)(n aV:Nat)(c:An) (aW:Bm w za p aM lv aN zb R aO)(U:w.cell? ⟨q,1,none⟩=some (.pointer p))(aP:w.cell? g=some (.slice A n aV))(aQ:AB w A n c)(bk:n<=1000)(aX:∀l∈c,-100000<=l/\l<=100000):AC 343 #[.pointer q,.pointer g] w (Q4 R c w):=by
 have an:Ae w ((w.alloc (.cells #[false,AI] 385)).alloc (.cells #[false,AI] 385)):=by grind
 have bn:=an.cell U;have br:=an.cell aP;have aY:=(Aq.new w 385 #[false,AI]).alloc (.cells #[false,AI] 385);have aZ:=Aq.b0 w (.cells #[false,AI] 385) 385 #[false,AI];have bt:(n:Int)<=1000:=Ad;have aR:=aQ.1;have a1:=zk aR;clear U aP aR;go_enter func343,ntmps343;go_wp2;go_loopw[19](λi wr=>∃(k:Nat)(v:Aw),i=k/\k<=n/\Aq wr (w+1) 385 #[.bool (CN R (c.take k)),v]/\Aq wr w 385 #[false,AI]/\Ay wr (w+2) v (BX R (c.take k))/\Ae w wr)(λi _=>n-(intOf i).toNat);case atStart=>exact⟨0,_,rfl,zx _,aZ,aY,Ay.nil _ _,an⟩
 case round=>
  obtain⟨k,v,rfl,bu,H,J,aj,V⟩:=hrel;have ao:=aQ.ext V;obtain⟨Z,aa,ab,rfl⟩:=aj.form;have ac:=H;have ae:=aj;by_cases a5:k<n
  . obtain⟨bw,l,rfl,ak,bx,a6,a7⟩:=ao.at_ a5;have al:=aX l (zm ak);have aq:=XL (R:=R) ak;have au:=VT (R:=R) ak;have av:=FW wr za p aM lv aN zb R aO l (aW.ext V) a6 a7;have aw:=IR R l;obtain⟨u,aS⟩:∃u,CJ R l=u:=⟨_,rfl⟩;rw[aS]at aq au av aw;have ax:=zk aq;have ay:=zk au;have a8:=av;have bz:(0:Int)<=(k:Int):=Ad;have bA:(k:Int)<(n:Int):=Ad;clear ak aq au av aS ao;have a9:=aw;clear aw H aj;go_wp2_with fail
    refine a8.mono ?_;rintro e w2⟨rfl,E⟩;have H:=ac.ext E;have d0:=H.cell 0;have d1:=H.cell 1;have f0:=H.frozen 0;have f1:=H.frozen 1;have aT:(w.heap.size+2<=w2.heap.size):=by have:=ac.lt;have:=E.size_le;omega
    clear H;rcases a9 with rfl|rfl|rfl
    . have az:=ae.ext E;have am:=az.ai (ac.ext E) Ax;have O:=(ac.ext E).ad 0 true;have ad:=az.setCell (p:=⟨w+1,0,none⟩) (λk e=>by intro ba;exact am (by rw[e,ba])) true;have bc:=O.cell 0;have bd:=O.cell 1;have aA:=zk ((Aq.newAt (w2.setCell ⟨w+1,0,none⟩ true) w2 AG 3 #[l]).cell 0);have aB:(BX R (c.take k)).length<=100000:=by have aC:(BX R (c.take k)).length<=(c.take k).length:=yl _ _;rw[ya]at aC;omega
      have aD:(-9223372036854775808<=l/\l<=9223372036854775807):=⟨by have:=al;omega,by have:=al;omega⟩;clear az;go_wp2_with(at_builtin;refine BW _ rfl (.tmp 30) (.tmp 32) rfl (w.heap.size+2) _ (BX R (c.take k)) rfl (ad.alloc _) _ _ l rfl aA.out aD (by have:=aB;omega) (by have:=aT;simp;omega) ?_;intro be bf T af ag;obtain⟨aE,aF,aG,rfl⟩:=T.form;have ah:=Aq.grown (Aq.alloc O _) af (yb am);have bh:=ah.cell 1;have t1:=ah.frozen 1;have aH:=T;have bi:=ag;clear T ag)
      go_roundw;case rel=>
       have U:=RF (w:=w) (hb:=.bool true) (v:=.slice Z aa ab) (show Aq _ _ _ #[.bool true,.slice Z aa ab]from O) ((J.ext E).ar (p:=⟨w+1,0,none⟩) (by dsimp only;omega) true) Ad ad ((V.trans E).setCell (p:=⟨w+1,0,none⟩) (by dsimp only;omega) true) Ad Ad af aH;obtain⟨aI,aJ,aK,aL⟩:=U;refine⟨k+1,.slice aE aF aG,by go_num,Ad,?_,aJ,?_,aL⟩;rw[ay.out];simpa using aI
       . rw[ax.out];simpa using aK
      case measure=>simp[intOf];omega
    . have ad:=ae.ext E;have O:=ac.ext E;have am:=ad.ai O Ax;have aA:=zk ((Aq.newAt w2 w2 rfl 3 #[l]).cell 0);have aB:(BX R (c.take k)).length<=100000:=by have aC:(BX R (c.take k)).length<=(c.take k).length:=yl _ _;rw[ya]at aC;omega
      have aD:(-9223372036854775808<=l/\l<=9223372036854775807):=⟨by have:=al;omega,by have:=al;omega⟩;skip;go_wp2_with(at_builtin;refine BW _ rfl (.tmp 38) (.tmp 40) rfl (w.heap.size+2) _ (BX R (c.take k)) rfl (ad.alloc _) _ _ l rfl aA.out aD (by have:=aB;omega) (by have:=aT;simp;omega) ?_;intro be bf T af ag;obtain⟨aE,aF,aG,rfl⟩:=T.form;have ah:=Aq.grown (Aq.alloc O _) af (yb am);have bh:=ah.cell 1;have t1:=ah.frozen 1;have aH:=T;have bi:=ag;clear T ag)
      go_roundw;case rel=>
       have U:=RF (w:=w) O (J.ext E) (by omega) ad (V.trans E) (by omega) (by omega) af aH;obtain⟨aI,aJ,aK,aL⟩:=U;refine⟨k+1,.slice aE aF aG,by go_num,Ad,?_,aJ,?_,aL⟩
       . rw[ay.out];simpa using aI
       rw[ax.out];simpa using aK
      case measure=>simp[intOf];omega
    . go_wp2;go_roundw;case rel=>exact⟨k+1,_,by go_num,Ad,by rw[ay.out];simpa using ac.ext E,J.ext E,by rw[ax.out];simpa using ae.ext E,V.trans E⟩
      case measure=>simp[intOf];omega
  obtain rfl:k=n:=Ad;have d0:=H.cell 0;have d1:=H.cell 1;have bc:=J.cell 0;have bd:=J.cell 1;have f0:=J.frozen 0;have f1:=J.frozen 1;clear H aj ao;go_wp2;have bj:Aq ((wr.setCell w (.bool (CN R (c.take k)))).setCell ⟨w,1,none⟩ (.slice Z aa ab)) w 385 #[.bool (CN R (c.take k)),.slice Z aa ab]:=(J.ad 0 _).ad 1 _;refine yw (xq rfl _ _ w 385 #[.bool (CN R (c.take k)),.slice Z aa ab] (0,0) _ rfl bj underlying385 rfl AJ) rfl ?_;rw[z1 (by rw[a1.out];exact zs _)]at *;have aU:∀j,(Value.slice Z aa ab).ownBlock=some j->j≠w:=λj e=>by have:=(ae.J j e).1;omega
  exact⟨_,rfl,((ae.setCell (p:=w) aU _).setCell (p:=⟨w,1,none⟩) aU _).less Ad,(V.setCell (p:=w) (zs _) _).setCell (p:=⟨w,1,none⟩) (zs _) _⟩
def Aq.dP{w:Aj}{g h:Nat}{t u:TypeId}{E H:Ck}(a:Aq w g t E)(b:Aq w h u H)(J:t≠u):g≠h:=by rintro rfl;unfold Aq at a b;rw[a]at b;injection b with b;injection b with _ b;exact J b
section
variable{w w':World}{za ap tp:Nat}{Y:C7}{W:By}{zg:List Int}
theorem Bl.c0(h:Bl w za ap tp Y W zg){hd':Nat}{sv':Aw}{seen':An}(H:Au (λb=>b=Y.q) w w')(hb:Aq w' Y.q 246 #[.pointer ap,.pointer tp,.map (some Y.mp),.map (some Y.ao),.map (some Y.a1),hd',sv']) (T:Ay w' za sv' seen')(U:∀l,DA (Y.bv l) sv')(V:seen'.length<=100000/\∀l∈seen',-100000<=l/\l<=100000)(Z:hd'<=100000):Bl w' za ap tp {Y with cP:=sv'} {W with head:=hd'} seen':=by refine⟨hb,?_,λx c aa=>?_,?_,λl=>(h.aH l).stay H (λk e O=>(h.aH l).ai h.J Ax (by rw[e,O])),?_,T,h.inj,h.bk,h.ae,U,h.bA,h.ge,h.cls,h.a6,h.once,V,Z⟩;obtain⟨J,f,u,E⟩:=h.bE;exact⟨J,f,u.stay H (u.ai h.J),E⟩;obtain⟨u,E⟩:=h.pair x c aa;exact⟨H.J u (u.dP h.J Ax),E.stay H (λk e O=>E.ai h.J Ax (by rw[e,O]))⟩;obtain⟨J,f,u,E⟩:=h.bP;exact⟨J,f,u.stay H (u.ai h.J),E⟩;obtain⟨J,f,u,E⟩:=h.late;exact⟨J,f,u.stay H (u.ai h.J),E⟩
end
def SG(za ap tp:Nat)(Y:C7)(W:By)(zg u:An)(w:Aj)(e:Bz)(w':Aj):Prop:=e=.returned (.tuple #[])/\∃k:Nat,k<=u.length/\k<=zg.length/\(∀i,i<k->u[i]? =zg[i]?)/\Bl w' za ap tp Y {W with head:=min W.head k} zg/\Au (λb=>b=Y.q) w w'
def Acw(w:Aj)(za ap tp:Nat)(Y:C7)(W:By)(zg aa:An)(A:AD)(n c:Nat)(E:Bl w za ap tp Y W zg)(ah:AB w A n aa)(aT:n<=100000):AC 226 #[.pointer Y.q,.slice A n c] w (SG za ap tp Y W zg aa w):=by
 obtain⟨ax,H,ay,aj,ak,_⟩:=E.own.aQ (by have:=E.bY.1;omega) (λl az=>by have:=E.bY.2 l az;omega);have al:=ak.1;have aA:=E.bY.1;have am:=ah.1;have an:=E.J.cell 6;have ad:=E.J.cell 5;have f5:=E.J.frozen 5;have aU:=E.bM;obtain⟨q,mp,aB,aC,Dd,aD,lv,aE⟩:=Y;dsimp only at aj an ad f5⊢;subst aj;have aF:=E;have aG:=zk am;have aH:=zk al;have aV:(H:Int)<=100000:=Ad;have aW:(n:Int)<=100000:=Ad;clear E aA am al;go_enter func226,ntmps226;go_wp2;go_loopw[4](λi wr=>∃k:Nat,i=k/\k<=n/\k<=H/\(∀i,i<k->aa[i]? =zg[i]?)/\Ae w wr)(λi _=>n-(intOf i).toNat);case atStart=>exact⟨0,rfl,zx _,zx _,λi hi=>absurd hi Ad,Ae.refl _⟩
 case round=>
  obtain⟨k,rfl,aI,aJ,heq,J⟩:=hrel;have ao:=zk heq;have ab:=λW(u:Ae wr W)=>u.cell (J.cell an);have d5:=J.cell ad;have U:wr.frozen? ⟨q,5,none⟩=false:=(J.frozen ad).trans f5;have aX:(0:Int)<=(k:Int):=Ad;have ac:(∀W',Ae w W'->SG za ap tp ⟨q,mp,aB,aC,.slice ax H ay,aD,lv,aE⟩ W zg aa w (.returned (.tuple #[])) (W'.setCell ⟨q,5,none⟩ (.int .i64 (min W.head k:Nat)))):=λW' aq=>by have O:=(aF.ext aq);refine⟨rfl,k,by rw[aG.out];exact aI,by rw[aH.out];exact aJ,ao,?_,Au.ay aq ((Au.refl (λb=>b=q) W').setCell (p:=⟨q,5,none⟩) (.inl rfl) _)⟩;exact O.c0 ((Au.refl (λb=>b=q) W').setCell (p:=⟨q,5,none⟩) (.inl rfl) _) (O.J.ad 5 _) (O.own.setCell (p:=⟨q,5,none⟩) (λj e aK=>O.own.ai O.J Ax (by rw[e,aK])) _) O.aF O.bY (by have:=O.bM;omega)
  clear heq;have aL:min (W.head:Int) (k:Int)=((min W.head k:Nat):Int):=Ad;have T:=λW'(u:Ae wr W')=>u.cell d5;by_cases aM:k<H;by_cases aN:k<n
  . obtain⟨aY,y,rfl,aO,ae,aZ,a1⟩:=(ak.ext J).at_ aM;obtain⟨a5,z,rfl,aP,af,a6,a7⟩:=(ah.ext J).at_ aN;have au:(k:Int)<(n:Int):=Ad;have ag:(k:Int)<(H:Int):=Ad;have av:=λW'(u:Ae wr W')=>u.cell ae;have aw:=λW'(u:Ae wr W')=>u.cell af;by_cases Z:y=z;focus
     have aQ:(y==z)=true:=by simpa using Z
     have aR:=zk Z;clear ae af Z ac aL T
    rotate_left;focus
     have aQ:(y==z)=false:=by simpa using Z
     clear ae af Z
    all_goals go_wp2;refine AL AJ ?_;(repeat first|apply Bg rfl (λW u=>Am) Am|apply AS rfl Am);refine AN λW' u=>?_;have V:=J.trans u
    have d5:=u.cell d5;have U:W'.frozen? ⟨q,5,none⟩=false:=(u.frozen (T wr (Ae.refl _))).trans U;clear u ab T av aw;go_wp2;go_end0;exact ac _ V;clear u ab av aw;go_wp2;go_roundw;case rel=> refine⟨k+1,by go_num,Ad,Ad,λi hi=>?_,V⟩;by_cases e:i=k;subst e;rw[aO.out,aP.out,aR.out];exact ao i Ad
    case measure=>simp[intOf];omega
  have au:¬(k:Int)<(n:Int):=Ad;have ag:(k:Int)<(H:Int):=Ad;have aS:decide ((k:Int)<(n:Int))=false:=zn au;go_wp2;refine AL AJ ?_;(repeat first|apply Bg rfl (λW u=>Am) Am|apply AS rfl Am);refine AN λW' u=>?_;have V:=J.trans u;have d5:=u.cell d5;have U:W'.frozen? ⟨q,5,none⟩=false:=(u.frozen (T wr (Ae.refl _))).trans U;clear u ab T;go_wp2;go_end0;exact ac _ V;have ag:¬(k:Int)<(H:Int):=Ad;have aS:decide ((k:Int)<(H:Int))=false:=zn ag;go_wp2;refine AL AJ ?_;(repeat first|apply Bg rfl (λW u=>Am) Am|apply AS rfl Am);refine AN λW' u=>?_;have V:=J.trans u;have d5:=u.cell d5;have U:W'.frozen? ⟨q,5,none⟩=false:=(u.frozen (T wr (Ae.refl _))).trans U;clear u ab T;go_wp2;go_end0;exact ac _ V
def XZ:NG 190 86 AI:=⟨underlying190,λw=>AJ⟩
def Vj{w:Aj}{za:Nat}{v u H:Aw}{xs:An}(O:Ay w za u xs)(T:DA v u)(U:∀k,H.ownBlock=some k->v.ownBlock=some k\/w<=k):DA H u:=by
 cases J:H.ownBlock with
 |none=>exact .inl J
 |some k=>
  cases E:u.ownBlock with
  |none=>exact .inr (.inl E)
  |some j=> refine .inr (.inr λe=>?_);rw[J,E]at e;injection e with e;subst e;rcases U k J with h|h;rcases T with g|g|g;rw[h]at g;cases g;rw[E]at g;cases g;exact g (by rw[h,E]);have:=(O.J k E).2;omega
def Aet{a b:Aw}(h:DA a b){k:Nat}(u:a.ownBlock=some k)(hb:b.ownBlock=some k):False:=by rcases h with g|g|g;rw[u]at g;cases g;rw[hb]at g;cases g;exact g (by rw[u,hb])
section
variable{w w1 w2:World}{za ap tp:Nat}{Y:C7}{W:By}{zg:List Int}
theorem Bl.cy(h:Bl w za ap tp Y W zg){l:Int}{E:Aw}{T:An}(az:-100000<=l/\l<=100000)(aA:Au (λb=>(Y.bv l).ownBlock=some b) w w1)(al:Ay w1 za E T) (aB:∀k,E.ownBlock=some k->(Y.bv l).ownBlock=some k\/w<=k)(af:Ae w1 w2)(aC:∀x∈T,∃c,W.af x=some c)(aD:T.Nodup):∃H,(Instr.mapUpdate 190 (.map (some Y.ao)) l E).run prog w2=.ok () H/\Bl H za ap tp {Y with bv:=AE Y.bv l E} {W with aa:=AE W.aa l T} zg/\Au (λb=>(Y.bv l).ownBlock=some b\/b=Y.ao) w H:=by
 obtain⟨aa,f,U,aE,am⟩:=h.bP;have an:∀{u:Aw}{xs:An},Ay w za u xs->u.ownBlock≠some Y.ao:=λJ e=>U.bq J e.symm;have aF:aa.length<=1000000000000000000:=by have aG:=U.dh (L:=(List.range 200001).map λk=>((k:Nat):Int)-100000) (λu J=>by have:=am u ((U.2.2.1 u).2 J);exact zw.2 ⟨(u+100000).toNat,zv.2 Ad,Ad⟩);simp at aG;omega
 have ao:=aA.aR af;have aq:=U.stay ao (an (h.aH l));obtain⟨H,aH,aI,au⟩:=aq.set XZ aF (x:=l) (by unfold Bj;omega) E;have ab:Au (λb=>(Y.bv l).ownBlock=some b\/b=Y.ao) w H:=(ao.mono (λ_ _ e=>.inl e)).grown au (λk e=>.inl (.inr (xg e).symm));have keep:∀{u:Aw}{xs:An},Ay w za u xs->DA (Y.bv l) u->Ay H za u xs:=λJ ag=>J.stay ab (λk e hF=>by rcases hF with g|g;exact Aet ag g e;subst g;exact an J e);have av:∀{g:Nat}{t:TypeId}{aw:Ck},Aq w g t aw->3≠t->Aq H g t aw:=λhb ah=>ab.J hb (λhF=>by rcases hF with g|g;exact(h.aH l).ai hb ah g;exact U.ai hb g.symm);have ax:∀{b:Nat}{aa:An}{f:Int->Option Aw},BB w b aa f->b≠Y.ao->BB H b aa f:=λac ah=>ac.stay ab (λhF=>by rcases hF with g|g;exact ac.bq (h.aH l) g.symm;exact ah g);have ad:∀{u:Aw}{xs:An},Ay w za u xs->DA (Y.bv l) u->DA E u:=λJ ag=>Vj J ag aB;refine⟨H,aH,⟨av h.J Ax,?_,λx c O=>?_,⟨_,_,aI,λm=>?_,λm ac=>?_⟩,λm=>?_,?_,keep h.own (h.aF l),h.inj,λm k aj=>?_,λm x c O=>?_,λm=>?_,h.bA,h.ge,h.cls,λm x O=>?_,λm=>?_,h.bY,h.bM⟩,ab⟩;obtain⟨ak,f1,V,Z⟩:=h.bE;exact⟨ak,f1,ax V h.bA.1,Z⟩;obtain⟨V,Z⟩:=h.pair x c O;exact⟨av V Ax,keep Z (h.ae l x c O)⟩;by_cases e:m=l;subst e;rw[zq rfl];exact .inr (by show some E=some (AE Y.bv m E m);rw[AO]);rw[zo e];show _/\AE Y.bv l E m=_\/f m=some (AE Y.bv l E m);rw[AK _ _ e];exact aE m;rcases Lf.1 ac with e|e;rw[e];exact az;exact am m e;show Ay H za (AE Y.bv l E m) (AE W.aa l T m);by_cases e:m=l;subst e;rw[AO,AO];exact((al.ext af).kept au (.inr (λe=>aq.bq (al.ext af) e.symm)));rw[AK _ _ e,AK _ _ e];exact keep (h.aH m) (h.bk l m (yb e));obtain⟨ak,f1,V,Z⟩:=h.late;exact⟨ak,f1,ax V (yb h.bA.2.2),Z⟩;show DA (AE Y.bv l E m) (AE Y.bv l E k);by_cases e:m=l;subst e;rw[AO,AK _ _ (yb aj)];exact ad (h.aH k) (h.bk m k aj);by_cases ay:k=l;subst ay;rw[AO,AK _ _ e];exact(ad (h.aH m) (h.bk k m (yb e))).symm;rw[AK _ _ e,AK _ _ ay];exact h.bk m k aj;show DA (AE Y.bv l E m) (Y.aw x);by_cases e:m=l;subst e;rw[AO];exact ad (h.pair x c O).2 (h.ae m x c O);rw[AK _ _ e];exact h.ae m x c O;show DA (AE Y.bv l E m) Y.cP;by_cases e:m=l;subst e;rw[AO];exact ad h.own (h.aF m);rw[AK _ _ e];exact h.aF m;have ae:x∈AE W.aa l T m:=O;by_cases e:m=l;subst e;rw[AO]at ae;exact aC x ae;rw[AK _ _ e]at ae;exact h.a6 m x ae;show(AE W.aa l T m).Nodup;by_cases e:m=l;subst e;rw[AO];exact aD;rw[AK _ _ e];exact h.once m
end
section
variable{w w':World}{za ap tp:Nat}{Y:C7}{W:By}{zg:List Int}
theorem Bl.cY(h:Bl w za ap tp Y W zg){x:Int}{c:An}(Z:W.af x=some c){o:Option (Int×Int)}(O:Au (λb=>b=Y.ak x) w w') (hb:Aq w' (Y.ak x) 307 #[Y.aw x,(o.getD (0,0)).1,(o.getD (0,0)).2]):Bl w' za ap tp Y {W with two:=AE W.two x o} zg:=by obtain⟨T,ad⟩:=h.pair x c Z;have U:∀{u:Aw}{xs:An},Ay w za u xs->Ay w' za u xs:=λaa=>aa.stay O (λk e g=>aa.ai T Ax (by rw[e,g]));have V:∀{b:Nat}{E:An}{f:Int->Option Aw},BB w b E f->BB w' b E f:=λab=>ab.stay O (ab.ai T);refine⟨O.J h.J (h.J.dP T Ax),?_,λy d ac=>?_,?_,λl=>U (h.aH l),?_,U h.own,h.inj,h.bk,h.ae,h.aF,h.bA,h.ge,h.cls,h.a6,h.once,h.bY,h.bM⟩;obtain⟨E,f,H,J⟩:=h.bE;exact⟨E,f,V H,J⟩;obtain⟨H,J⟩:=h.pair y d ac;refine⟨?_,U J⟩;by_cases e:y=x;subst e;show Aq w' (Y.ak y) _ #[_,((AE W.two y o y).getD (0,0)).1,((AE W.two y o y).getD (0,0)).2];rw[AO];exact hb;show Aq w' (Y.ak y) _ #[_,((AE W.two x o y).getD (0,0)).1,((AE W.two x o y).getD (0,0)).2];rw[AK _ _ e];exact O.J H (λg=>e (h.inj y x d c ac Z g));obtain⟨E,f,H,J⟩:=h.bP;exact⟨E,f,V H,J⟩;obtain⟨E,f,H,J⟩:=h.late;exact⟨E,f,V H,J⟩
end
def Km:Enters 315:=by intro args w;go_simp
def OJ(w:World)(x y:Int)(b:Nat)(hb:w.cell? ⟨b,0,none⟩=some (.int .i64 y)):AC 315 #[x,.pointer b] w λe w'=>e=.returned (.bool (decide (x=y)))/\Ae w w':=by
 by_cases h:x=y
 . have u:(x==y)=true:=by simpa using h
   have H:=zk h;clear h;go_enter func315,ntmps315;go_wp2;go_ret;exact⟨Bo (by rw[zt H.out]),Ae.refl _⟩
 . have u:(x==y)=false:=by simpa using h
   have H:=zk h;clear h;go_enter func315,ntmps315;go_wp2;go_ret;exact⟨Bo (by rw[zn H]),Ae.refl _⟩
def Lg:Enters 298:=by intro args w;go_simp
def Qg(w:World)(x y:Int)(b:Nat)(hb:w.cell? ⟨b,0,none⟩=some (.int .i64 y)):AC 298 #[x,.pointer b] w λe w'=>e=.returned (.bool (decide (x=y)))/\Ae w w':=by
 by_cases h:x=y
 . have u:(x==y)=true:=by simpa using h
   have H:=zk h;clear h;go_enter func298,ntmps298;go_wp2;go_ret;exact⟨Bo (by rw[zt H.out]),Ae.refl _⟩
 . have u:(x==y)=false:=by simpa using h
   have H:=zk h;clear h;go_enter func298,ntmps298;go_wp2;go_ret;exact⟨Bo (by rw[zn H]),Ae.refl _⟩
def Tb:NG 244 305 (.pointer none):=⟨underlying244,λw=>AJ⟩
def Dl{E:TypeId}(w H:Aj){zf:Array Oper}{rest:List Oper}{o:Oper}{a:Act}{Q:Exit->Act->Aj->Prop}(J:o.guard=none)(m x v:Operand)(O:o.op=Op.mapUpdate E m x v) (b:Nat)(u:Int)(val:Aw)(T:a.eval m=.map (some b))(U:a.eval x=u)(V:a.eval v=val)(hrun:(Instr.mapUpdate E (.map (some b)) u val).run prog w=.ok () H) (Z:wpList prog zf Q rest (a.put o.dst undef) H):wpList prog zf Q (o::rest) a w:=by refine x5 J λab aa=>?_;unfold Oper.wp;simp[execOp,O,T,U,V,hrun,Result.andThen];exact aa _ _ Z
def Bl.b1{w:Aj}{za ap E:Nat}{Y:C7}{W:By}{zg:An}(h:Bl w za ap E Y W zg){x:Int}{c:An}(u:W.af x=some c):(Instr.lookup 244 (.map (some Y.mp)) x false).run prog w=.ok (.pointer (some ⟨Y.ak x,0,none⟩)) w:=by obtain⟨O,f,H,J,_⟩:=h.bE;have hb:=(h.cls x c u).1;rw[H.look Tb (by unfold Bj;omega),J x,u];rfl
def Bl.eM{w:Aj}{za ap u:Nat}{Y:C7}{W:By}{zg:An}(h:Bl w za ap u Y W zg){l:Int}(T:-100000<=l/\l<=100000):(Instr.lookup 190 (.map (some Y.ao)) l false).run prog w=.ok (Y.bv l) w:=by obtain⟨U,f,E,H,_⟩:=h.bP;rw[E.look XZ (by unfold Bj;omega)];rcases H l with⟨J,O⟩|e;rw[J,O];rfl;rw[e];rfl
def FA(W:By)(x a b:Int):Nat->Int->An
 |0=>W.aa
 |1=>AE W.aa a (AX (W.aa a) x)
 |_=>AE (AE W.aa a (AX (W.aa a) x)) b (AX (AE W.aa a (AX (W.aa a) x) b) x)
def Yk(za ap E:Nat)(Y:C7)(W:By)(zg:An)(x a b:Int)(w:Aj)(e:Bz)(w':Aj):Prop:=e=.returned (.tuple #[])/\∃u,Bl w' za ap E {Y with bv:=u} {W with two:=AE W.two x none,aa:=FA W x a b 2} zg/\Au (EW Y W) w w'/\∀l,(u l).ownBlock=(Y.bv l).ownBlock
def Q6(a b:Int)(W:Aj):(Instr.index 149 (.agg #[a,b]) ()).run prog W=.ok a W:=by rfl
def QS(a b:Int)(W:Aj):(Instr.index 149 (.agg #[a,b]) AF).run prog W=.ok b W:=by rfl
def FD(wr:Aj)(v0:Aw)(za:Nat)(xs:An)(v:Aw)(u:Aj):Prop:=Ay u za v xs/\v.ownBlock=v0.ownBlock/\Au (λb=>v0.ownBlock=some b) wr u
def DV{wr W:Aj}{v0:Aw}{za:Nat}{xs:An}(h:Cm wr (FD wr v0 za xs) W):Au (λb=>v0.ownBlock=some b) wr W:=by rcases h with h|⟨v,H,⟨_,_,u⟩,E⟩;exact h.stay;exact u.aR E
def Bl.cq{w W':Aj}{za ap E:Nat}{Y:C7}{W:By}{zg:An}(h:Bl w za ap E Y W zg){l:Int}(U:-100000<=l/\l<=100000)(H:Au (λb=>(Y.bv l).ownBlock=some b) w W'):(Instr.lookup 190 (.map (some Y.ao)) l false).run prog W'=.ok (Y.bv l) W':=by obtain⟨V,f,u,J,_⟩:=h.bP;rw[(u.stay H (λe=>u.bq (h.aH l) e.symm)).look XZ (by unfold Bj;omega)];rcases J l with⟨O,T⟩|e;rw[O,T];rfl;rw[e];rfl
def MG(w:Aj)(za ap aK:Nat)(Y:C7)(W:By)(zg:An)(x a b:Int)(c:An)(am:Bl w za ap aK Y W zg)(aF:W.af x=some c)(aL:W.two x=some (a,b))(aM:(-100000<=a/\a<=100000)/\a≠0)(hb:(-100000<=b/\b<=100000)/\b≠0):AC 253 #[.pointer Y.q,x] w (Yk za ap aK Y W zg x a b w):=by
 have a1:Ae w (w.alloc (.cells #[x] 3)):=by grind
 have a5:=Aq.new w 3 #[x];have aG:=am.ext a1;have bw:=(am.cls x c aF).1;have an:JI W x=(a,b):=by unfold JI;rw[aL];rfl
 have aN:=(aG.pair x c aF).1;rw[an]at aN;have ao:=zk aF;have bf:=zk aL;have a6:=aN;have a7:=aM.1;have a8:=hb.1;have bh:(a==0)=false:=yv.2 aM.2;have bi:(b==0)=false:=yv.2 hb.2;have bx:(a !=0)=true:=by rw[bne,bh];rfl
 have bz:(b !=0)=true:=by rw[bne,bi];rfl
 clear aF aL aN aM hb an;go_enter func253,ntmps253;go_wp2;generalize a9:w.alloc (.cells #[x] 3)=ae at *;have aO:=λW'(E:Ae ae W')=>E.cell (aG.J.cell 2);have aa:=λW'(E:Ae ae W')=>E.cell (a5.cell 0);have af:=λW'(E:Ae ae W')=>E.cell (a6.cell 1);have ab:=λW'(E:Ae ae W')=>E.cell (a6.cell 2);have aH:=λW'(E:Ae ae W')=>(aG.ext E).b1 ao;refine AL AJ ?_;(repeat first|apply Bg rfl (λW E=>Am) Am|apply AS rfl Am);refine AN λaI aP=>?_;have bA:=zk a9;clear aO aa af ab aH a9;have bj:Hid (ae.cell? w=some x):=zk (a5.cell 0);have ba:(∀l k,(Y.bv l).ownBlock=some k->k≠w):=λl k e=>by have:=((am.aH l).J k e).2;omega
 go_wp2;go_loopw[15](λi wr=>∃(k:Nat)(al:Int->Aw),i=k/\k<=2/\Bl wr za ap aK {Y with bv:=al} {W with aa:=FA W x a b k} zg/\Au (EW Y W) ae wr/\(∀l,(al l).ownBlock=(Y.bv l).ownBlock)/\wr.cell? w=some x)(λi _=>2-(intOf i).toNat);case atStart=>exact⟨0,Y.bv,rfl,Ad,aG.ext aP,aP.stay,λ_=>rfl,aP.cell bj⟩
 case round=>
  obtain⟨k,al,rfl,bB,J,aQ,bc,bd⟩:=hrel;have ac:=zk bc;have aq:=zk bd;clear bc bd;have bC:=Q6 a b;have bD:=QS a b;rcases(show k=0\/k=1\/k=2 by omega)with rfl|rfl|rfl
  . go_wp2;obtain⟨O,T,cl,U⟩:=(J.aH a).form;dsimp only at U;have au:Ay wr za (.slice O T cl) (FA W x a b 0 a):=by have:=J.aH a;dsimp only at this;rw[U]at this;exact this
    have av:∀g,(Value.slice O T cl).ownBlock=some g->g≠Y.q:=λg e ag=>by subst ag;exact au.ai J.J Ax e
    have aw:∀g,(Value.slice O T cl).ownBlock=some g->g≠w:=λg e=>ba a g (by rw[<-ac a,U];exact e);have aa:=λW'(E:Cm wr (FD wr (.slice O T cl) za (AX (FA W x a b 0 a) x)) W')=>(DV E).cell (J.J.cell 3) (λe=>av _ e rfl);have lb:=λW'(E:Cm wr (FD wr (.slice O T cl) za (AX (FA W x a b 0 a) x)) W')=>J.cq (l:=a) a7 (by dsimp only;rw[U];exact DV E);dsimp only at lb;rw[U]at lb;have ad:=zk U;clear av U;refine Fr (FD wr (.slice O T cl) za (AX (FA W x a b 0 a) x)) (n:=12) (dk:=32) AJ rfl rfl rfl rfl ?_;simp only[List.take_succ_cons,List.take_zero];(repeat apply Ky rfl rfl rfl (λW E=>Am) Am);refine AN ⟨λW' E=>?_,λv bk W' aR E=>?_⟩
    . have ah:=Hj za O T cl (FA W x a b 0 a) (λy=>decide (y=x)) 315 #[.pointer w] W' (λV=>V.cell? w=some x/\Au (λb=>(Value.slice O T cl).ownBlock=some b) wr V) ⟨E.cell aq,E.stay⟩ (au.ext E) (λg e V j u Z=>⟨((Au.refl (λk=>k=g) V).setCell (p:=⟨g,j,none⟩) (.inl rfl) u).cell Z.1 (λag=>aw g (by rw[e];rfl) ag.symm),Z.2.setCell (p:=⟨g,j,none⟩) (.inl (by rw[e];rfl)) u⟩) (λy aj=>by obtain⟨d,aS⟩:=J.a6 a y aj;have:=(J.cls y d aS).1;omega) (by have ax:(FA W x a b 0 a).length<=1000000000:=J.bN a;omega) Km (λy _ V Z=>(OJ V y x _ Z.1).mono λe w'⟨ax,ak⟩=>⟨ax,⟨ak.cell Z.1,Z.2.aR ak⟩,ak⟩);have ay:(FA W x a b 0 a).filter (λy=>!decide (y=x))=AX (FA W x a b 0 a) x:=by unfold AX;congr 1;funext y;by_cases e:y=x<;>simp[e]
      rw[ay]at ah;have aT:=ah;clear ah ay aa lb E;go_wp2_with fail
      refine aT.mono ?_;rintro e w2⟨m,rfl,az,_,aA⟩;have aU:FD wr (.slice O T cl) za (AX (FA W x a b 0 a) x) (.slice O m cl) w2:=⟨az,by cases O<;>rfl,aA⟩;clear az aA;go_wp2;exact Cp (.slice O m cl) rfl aU
    . obtain⟨af,ab,aB⟩:=aR;obtain⟨aV,aC,aW,aD⟩:=J.cy (l:=a) a7 (by dsimp only;rw[ad.out];exact aB) af (λk e=>.inl (by dsimp only;rw[ad.out,<-ab];exact e)) E (λy aj=>J.a6 a y (Ee.1 aj).1) ((J.once a).sublist xw);have aX:=zk ab;refine Dl W' aV rfl (.tmp 23) (.tmp 24) (.tmp 32) rfl Y.ao a v rfl rfl rfl aC ?_;clear aC af ab aB E aa lb;go_wp2;go_roundw;case rel=> refine⟨1,AE al a v,rfl,Ad,aW,?_,λl=>?_,?_⟩;refine aQ.trans aD (λj _ H=>?_);rcases H with H|H;exact .inr (.inr (.inr (.inr (.inr (.inr ⟨a,by rw[<-ac a];exact H⟩)))));exact .inr (.inr (.inl H));by_cases e:l=a;subst e;rw[AO,aX.out,<-ad.out];exact ac l;rw[AK _ _ e];exact ac l;refine aD.cell aq (λH=>?_);rcases H with H|H;dsimp only at H;exact aw _ (by rw[<-ad.out];exact H) rfl;obtain⟨bn,f,aY,_⟩:=am.bP;have:=aY.lt;dsimp only at H;omega
      case measure=>simp[intOf]
  . go_wp2;obtain⟨O,T,cl,U⟩:=(J.aH b).form;dsimp only at U;have au:Ay wr za (.slice O T cl) (FA W x a b 1 b):=by have:=J.aH b;dsimp only at this;rw[U]at this;exact this
    have av:∀g,(Value.slice O T cl).ownBlock=some g->g≠Y.q:=λg e ag=>by subst ag;exact au.ai J.J Ax e
    have aw:∀g,(Value.slice O T cl).ownBlock=some g->g≠w:=λg e=>ba b g (by rw[<-ac b,U];exact e);have aa:=λW'(E:Cm wr (FD wr (.slice O T cl) za (AX (FA W x a b 1 b) x)) W')=>(DV E).cell (J.J.cell 3) (λe=>av _ e rfl);have lb:=λW'(E:Cm wr (FD wr (.slice O T cl) za (AX (FA W x a b 1 b) x)) W')=>J.cq (l:=b) a8 (by dsimp only;rw[U];exact DV E);dsimp only at lb;rw[U]at lb;have ad:=zk U;clear av U;refine Fr (FD wr (.slice O T cl) za (AX (FA W x a b 1 b) x)) (n:=12) (dk:=32) AJ rfl rfl rfl rfl ?_;simp only[List.take_succ_cons,List.take_zero];(repeat apply Ky rfl rfl rfl (λW E=>Am) Am);refine AN ⟨λW' E=>?_,λv bk W' aR E=>?_⟩
    . have ah:=Hj za O T cl (FA W x a b 1 b) (λy=>decide (y=x)) 315 #[.pointer w] W' (λV=>V.cell? w=some x/\Au (λb=>(Value.slice O T cl).ownBlock=some b) wr V) ⟨E.cell aq,E.stay⟩ (au.ext E) (λg e V j u Z=>⟨((Au.refl (λk=>k=g) V).setCell (p:=⟨g,j,none⟩) (.inl rfl) u).cell Z.1 (λag=>aw g (by rw[e];rfl) ag.symm),Z.2.setCell (p:=⟨g,j,none⟩) (.inl (by rw[e];rfl)) u⟩) (λy aj=>by obtain⟨d,aS⟩:=J.a6 b y aj;have:=(J.cls y d aS).1;omega) (by have ax:(FA W x a b 1 b).length<=1000000000:=J.bN b;omega) Km (λy _ V Z=>(OJ V y x _ Z.1).mono λe w'⟨ax,ak⟩=>⟨ax,⟨ak.cell Z.1,Z.2.aR ak⟩,ak⟩);have ay:(FA W x a b 1 b).filter (λy=>!decide (y=x))=AX (FA W x a b 1 b) x:=by unfold AX;congr 1;funext y;by_cases e:y=x<;>simp[e]
      rw[ay]at ah;have aT:=ah;clear ah ay aa lb E;go_wp2_with fail
      refine aT.mono ?_;rintro e w2⟨m,rfl,az,_,aA⟩;have aU:FD wr (.slice O T cl) za (AX (FA W x a b 1 b) x) (.slice O m cl) w2:=⟨az,by cases O<;>rfl,aA⟩;clear az aA;go_wp2;exact Cp (.slice O m cl) rfl aU
    . obtain⟨af,ab,aB⟩:=aR;obtain⟨aV,aC,aW,aD⟩:=J.cy (l:=b) a8 (by dsimp only;rw[ad.out];exact aB) af (λk e=>.inl (by dsimp only;rw[ad.out,<-ab];exact e)) E (λy aj=>J.a6 b y (Ee.1 aj).1) ((J.once b).sublist xw);have aX:=zk ab;refine Dl W' aV rfl (.tmp 23) (.tmp 24) (.tmp 32) rfl Y.ao b v rfl rfl rfl aC ?_;clear aC af ab aB E aa lb;go_wp2;go_roundw;case rel=> refine⟨2,AE al b v,rfl,Ad,aW,?_,λl=>?_,?_⟩;refine aQ.trans aD (λj _ H=>?_);rcases H with H|H;exact .inr (.inr (.inr (.inr (.inr (.inr ⟨b,by rw[<-ac b];exact H⟩)))));exact .inr (.inr (.inl H));by_cases e:l=b;subst e;rw[AO,aX.out,<-ad.out];exact ac l;rw[AK _ _ e];exact ac l;refine aD.cell aq (λH=>?_);rcases H with H|H;dsimp only at H;exact aw _ (by rw[<-ad.out];exact H) rfl;obtain⟨bn,f,aY,_⟩:=am.bP;have:=aY.lt;dsimp only at H;omega
      case measure=>simp[intOf]
  go_wp2;have aJ:=(J.pair x c ao).1;have an:JI {W with aa:=FA W x a b 2} x=(a,b):=by unfold JI;dsimp only;rw[bf.out];rfl
  rw[an]at aJ;dsimp only at aJ;have br:=aJ;have aO:=λW'(E:Ae wr W')=>E.cell (J.J.cell 2);have aa:=λW'(E:Ae wr W')=>E.cell aq;have aH:=λW'(E:Ae wr W')=>(J.ext E).b1 ao;dsimp only at aH;clear aJ an;refine CO (n:=9) AJ rfl rfl ?_;simp only[List.take_succ_cons,List.take_zero];(repeat first|apply Bg rfl (λW E=>Am) Am|apply AS rfl Am);refine AN λaI aZ=>?_;have aE:=br.ext aZ;have d1:=aE.cell 1;have d2:=aE.cell 2;have f1:=aE.frozen 1;have f2:=aE.frozen 2;have bt:=J.ext aZ;clear aO aa aH;go_wp2;go_end0;have be:Au (λk=>k=Y.ak x) aI ((aI.setCell ⟨Y.ak x,1,none⟩ ()).setCell ⟨Y.ak x,2,none⟩ ()):=((Au.refl (λk=>k=Y.ak x) aI).setCell (p:=⟨Y.ak x,1,none⟩) (.inl rfl) _).setCell (p:=⟨Y.ak x,2,none⟩) (.inl rfl) _;have bu:=bt.cY (x:=x) ao (o:=none) be ((aE.ad 1 ()).ad 2 ());refine⟨rfl,al,bu,?_,ac⟩;refine Au.ay a1 ((aQ.aR aZ).trans be (λj _ H=>?_));exact .inr (.inr (.inr (.inr (.inr (.inl ⟨x,c,ao,.inl H⟩)))))
section
variable{w w':World}{za ap tp:Nat}{Y:C7}{W:By}{zg:List Int}
theorem Bl.ed(h:Bl w za ap tp Y W zg){U:Int->Bool}(H:Au (λb=>b=Y.a1) w w')(ad:∃E f,BB w' Y.a1 E f/\(∀x,f x=if U x then some (.int .i64 1)else none)/\E.length<=1000000000):Bl w' za ap tp Y {W with late:=U} zg:=by obtain⟨ae,f0,V,_⟩:=h.late;have J:∀{u:Value}{xs:List Int},Ay w za u xs->Ay w' za u xs:=λZ=>Z.stay H (λk e g=>V.bq Z (by rw[e,g]));have aa:∀{g:Nat}{t:TypeId}{ab:Array Value},Aq w g t ab->Aq w' g t ab:=λhb=>H.J hb (λg=>V.ai hb g.symm);refine⟨aa h.J,?_,λy d ac=>⟨aa (h.pair y d ac).1,J (h.pair y d ac).2⟩,?_,λl=>J (h.aH l),ad,J h.own,h.inj,h.bk,h.ae,h.aF,h.bA,h.ge,h.cls,h.a6,h.once,h.bY,h.bM⟩;obtain⟨E,f,O,T⟩:=h.bE;exact⟨E,f,O.stay H h.bA.2.1,T⟩;obtain⟨E,f,O,T⟩:=h.bP;exact⟨E,f,O.stay H h.bA.2.2,T⟩
theorem Bl.dt(h:Bl w za ap tp Y W zg){x:Int}{c:An}(u:W.af x=some c)(T:∀z,W.late z=true->∃d,W.af z=some d):∃w',(Instr.mapUpdate 174 (.map (some Y.a1)) x AF).run prog w=.ok () w'/\Bl w' za ap tp Y {W with late:=AE W.late x true} zg/\Au (λb=>b=Y.a1) w w':=by
 obtain⟨af,f,E,H,ag⟩:=h.late;obtain⟨U,f1,V,Z,aa⟩:=h.bE;have hb:=(h.cls x c u).1;obtain⟨w',ab,J,ac⟩:=E.set Hz Ad (x:=x) (by unfold Bj;omega) AF;have O:=(Au.refl _ w).grown ac (λk e=>.inl (xg e).symm);refine⟨w',ab,h.ed O ⟨_,_,J,λz=>?_,?_⟩,O⟩;show(if z=x then some (Value.int .i64 1)else f z)=if AE W.late x true z then _ else _
 by_cases e:z=x;subst e;rw[zq rfl,AO];rfl;rw[zo e,AK _ _ e];exact H z;refine z7 (Il J.2.1 (b:=U) (λz ad=>?_)) aa;rw[V.2.2.1,Z];rcases Lf.1 ad with e|e;rw[e,u];rfl;have:=(E.2.2.1 z).1 e;rw[H]at this;by_cases g:W.late z=true;obtain⟨d,ae⟩:=T z g;rw[ae];rfl;rw[zo g]at this;cases this
theorem Bl.dV(h:Bl w za ap tp Y W zg){x:Int}(hb:0<=x/\x<=Bh)(u:TypeId):∃w',(Builtin.delete_ #[174,3] u #[.map (some Y.a1),x]).run prog w=.ok (.tuple #[]) w'/\Bl w' za ap tp Y {W with late:=AE W.late x false} zg/\Au (λb=>b=Y.a1) w w':=by
 obtain⟨Z,f,H,J,O⟩:=h.late;obtain⟨w',T,U,V⟩:=H.del Hz (x:=x) (by unfold Bj;omega) u;have E:=(Au.refl _ w).grown V (λk e=>.inl (xg e).symm);refine⟨w',T,h.ed E ⟨_,_,U,λz=>?_,?_⟩,E⟩;show _=if AE W.late x false z then _ else _
 by_cases e:z=x;subst e;rw[AO];simp;rw[AK _ _ e];simp only[zo e];exact J z;exact z7 (yl _ _) O
end
section
variable{w w2:World}{za ap tp:Nat}{Y:C7}{W:By}{zg:List Int}
theorem Bl.eD(h:Bl w za ap tp Y W zg){x:Int}{c:An}{v:Aw}{g:Nat}(au:W.af x=none)(av:W.two x=none)(aw:(0<=x/\x<=Bh)/\c.length<=1000/\∀l∈c,-100000<=l/\l<=100000) (ax:Ae w w2)(hb:Aq w2 g 307 #[v,(),()])(aH:w<=g)(ay:Ay w2 za v c)(az:∀k,v.ownBlock=some k->w<=k)(aI:za<=w)(aA:∃L:An,L.length<=999999999/\∀z d,W.af z=some d->z∈L):∃H,(Instr.mapUpdate 244 (.map (some Y.mp)) x (.pointer g)).run prog w2=.ok () H/\Bl H za ap tp {Y with ak:=AE Y.ak x g,aw:=AE Y.aw x v} {W with af:=AE W.af x (some c)} zg/\Au (λb=>b=Y.mp) w2 H:=by
 have J:=h.ext ax;obtain⟨ak,f,V,al,aJ⟩:=J.bE;obtain⟨L,aB,aC⟩:=aA;have aK:ak.length<=999999999:=z7 (Il V.2.1 (λz E=>by
  have:=(V.2.2.1 z).1 E;rw[al]at this;cases e:W.af z with
  |none=>rw[e]at this;cases this
  |some d=>exact aC z d e)) aB
 obtain⟨H,aD,aE,aF⟩:=V.set Tb Ad (x:=x) (by unfold Bj;omega) (.pointer g);have Z:=(Au.refl _ w2).grown aF (λk e=>.inl (xg e).symm);have aa:∀{u:Aw}{xs:An},Ay w2 za u xs->Ay H za u xs:=λam=>am.stay Z (λk e q=>V.bq am (by rw[e,q]));have ab:∀{q:Nat}{t:TypeId}{an:Ck},Aq w2 q t an->Aq H q t an:=λhb=>Z.J hb (λq=>V.ai hb q.symm);have O:∀{z:Int}{d:An},AE W.af x (some c) z=some d->(z=x/\d=c)\/(z≠x/\W.af z=some d):=λ{z d}E=>by
  by_cases e:z=x;subst e;rw[AO]at E;injection E with E;exact .inl ⟨rfl,E.symm⟩
  rw[AK _ _ e]at E;exact .inr ⟨e,E⟩
 have ao:∀{z:Int}{d:An},W.af z=some d->Y.ak z≠g:=λ{z d}E e=>by have:=((h.pair z d E).1).lt;omega
 refine⟨H,aD,⟨ab J.J,⟨_,_,aE,λz=>?_,?_⟩,λz d E=>?_,?_,λl=>aa (J.aH l),?_,aa J.own,λy z d d' ac E aG=>?_,h.bk,λl z d E=>?_,h.aF,h.bA,⟨h.ge.1,h.ge.2.1,h.ge.2.2.1,h.ge.2.2.2.1,λz d E=>?_⟩,λz d E=>?_,λl y ac=>?_,h.once,h.bY,h.bM⟩,Z⟩;show(if z=x then _ else f z)=(AE W.af x (some c) z).map λ_=>Value.pointer (some ⟨AE Y.ak x g z,0,none⟩);by_cases e:z=x;subst e;rw[zq rfl,AO,AO];rfl;rw[zo e,AK _ _ e,AK _ _ e];exact al z;have:=KX ak x;omega;rcases O E with⟨rfl,rfl⟩|⟨e,E⟩;show Aq H (AE Y.ak z g z) _ #[AE Y.aw z v z,((W.two z).getD (0,0)).1,((W.two z).getD (0,0)).2]/\Ay H za (AE Y.aw z v z) _;rw[AO,AO,av];exact⟨ab hb,aa ay⟩;show Aq H (AE Y.ak x g z) _ #[AE Y.aw x v z,_,_]/\Ay H za (AE Y.aw x v z) _;rw[AK _ _ e,AK _ _ e];exact⟨ab (J.pair z d E).1,aa (J.pair z d E).2⟩;obtain⟨ad,f1,ae,af⟩:=J.bP;exact⟨ad,f1,ae.stay Z (yb h.bA.1),af⟩;obtain⟨ad,f1,ae,af⟩:=J.late;exact⟨ad,f1,ae.stay Z (yb h.bA.2.1),af⟩;have U:AE Y.ak x g y=AE Y.ak x g z:=aG;rcases O ac with⟨rfl,rfl⟩|⟨e,aq⟩;rcases O E with⟨rfl,rfl⟩|⟨T,E⟩;rfl;rw[AO,AK _ _ T]at U;exact absurd U.symm (ao E);rcases O E with⟨rfl,rfl⟩|⟨T,E⟩;rw[AO,AK _ _ e]at U;exact absurd U (ao aq);rw[AK _ _ e,AK _ _ T]at U;exact h.inj y z d d' aq E U;show DA (Y.bv l) (AE Y.aw x v z);rcases O E with⟨rfl,rfl⟩|⟨e,E⟩;rw[AO];cases ag:(Y.bv l).ownBlock with
 |none=>exact .inl ag
 |some k=>
  cases T:v.ownBlock with
  |none=>exact .inr (.inl T)
  |some j=> refine .inr (.inr λah=>?_);rw[ag,T]at ah;injection ah with ah;have:=((h.aH l).J k ag).2;have:=az j T;omega
 rw[AK _ _ e];exact h.ae l z d E;show za<=AE Y.ak x g z;rcases O E with⟨rfl,rfl⟩|⟨e,E⟩;rw[AO];omega;rw[AK _ _ e];exact h.ge.2.2.2.2 z d E;rcases O E with⟨rfl,rfl⟩|⟨e,E⟩;exact aw;exact h.cls z d E;obtain⟨d,aj⟩:=h.a6 l y ac;exact⟨d,by show AE W.af x (some c) y=some d;rw[AK _ _ (λe=>by rw[e,au]at aj;cases aj)];exact aj⟩
end
section
variable{w:World}{za ap tp:Nat}{Y:C7}{W:By}{zg:List Int}
theorem Bl.eu(h:Bl w za ap tp Y W zg){x:Int}(au:0<=x/\x<=Bh)(ag:∀l,x∉W.aa l)(ac:TypeId):∃H,(Builtin.delete_ #[244,3] ac #[.map (some Y.mp),x]).run prog w=.ok (.tuple #[]) H/\Bl H za ap tp Y {W with af:=AE W.af x none} zg/\Au (λb=>b=Y.mp) w H:=by
 obtain⟨av,f,U,ah,aj⟩:=h.bE;obtain⟨H,ak,al,am⟩:=U.del Tb (x:=x) (by unfold Bj;omega) ac;have O:Au (λb=>b=Y.mp) w H:=(Au.refl _ w).grown am (λk e=>.inl (xg e).symm);have V:∀{u:Aw}{xs:An},Ay w za u xs->Ay H za u xs:=λad=>ad.stay O (λk e q=>U.bq ad (by rw[e,q]));have ae:∀{q:Nat}{t:TypeId}{af:Ck},Aq w q t af->Aq H q t af:=λhb=>O.J hb (λq=>U.ai hb q.symm);have J:∀{z:Int}{d:An},AE W.af x none z=some d->z≠x/\W.af z=some d:=λ{z d}E=>by by_cases e:z=x;subst e;rw[AO]at E;cases E;rw[AK _ _ e]at E;exact⟨e,E⟩
 refine⟨H,ak,⟨ae h.J,⟨_,_,al,λz=>?_,z7 (yl _ _) aj⟩,λz d E=>⟨ae (h.pair z d (J E).2).1,V (h.pair z d (J E).2).2⟩,?_,λl=>V (h.aH l),?_,V h.own,λy z d d' T E an=>h.inj y z d d' (J T).2 (J E).2 an,h.bk,λl z d E=>h.ae l z d (J E).2,h.aF,h.bA,⟨h.ge.1,h.ge.2.1,h.ge.2.2.1,h.ge.2.2.2.1,λz d E=>h.ge.2.2.2.2 z d (J E).2⟩,λz d E=>h.cls z d (J E).2,λl y T=>?_,h.once,h.bY,h.bM⟩,O⟩;show(if z=x then none else f z)=(AE W.af x none z).map λ_=>Value.pointer (some ⟨Y.ak z,0,none⟩);by_cases e:z=x;subst e;rw[zq rfl,AO];rfl;rw[zo e,AK _ _ e];exact ah z;obtain⟨Z,f1,aa,ab⟩:=h.bP;exact⟨Z,f1,aa.stay O (yb h.bA.1),ab⟩;obtain⟨Z,f1,aa,ab⟩:=h.late;exact⟨Z,f1,aa.stay O (yb h.bA.2.1),ab⟩;obtain⟨d,ao⟩:=h.a6 l y T;have aq:y≠x:=λe=>ag l (by rw[<-e];exact T);exact⟨d,by show AE W.af x none y=some d;rw[AK _ _ aq];exact ao⟩
end
def E5(R:List AH)(W:By)(d x:Int)(c:An):Bool×List AH×By:=match BX R c with
 |[]=>(true,R,W)
 |[a]=>if CN R c then(false,R,W)else(false,R++[⟨a,d,x⟩],W)
 |a::b::_=>(false,R,W.watched x a b)
def P5{R:List AH}{W:By}{d x:Int}{c:An}(h:BX R c=[]):E5 R W d x c=(true,R,W):=by unfold E5;rw[h]
def NC{R:List AH}{W:By}{d x a:Int}{c:An}(h:BX R c=[a])(u:CN R c=true):E5 R W d x c=(false,R,W):=by unfold E5;rw[h];simp[u]
def Qv{R:List AH}{W:By}{d x a:Int}{c:An}(h:BX R c=[a])(u:CN R c=false):E5 R W d x c=(false,R++[⟨a,d,x⟩],W):=by unfold E5;rw[h];simp[u]
def PJ{R:List AH}{W:By}{d x a b:Int}{t c:An}(h:BX R c=a::b::t):E5 R W d x c=(false,R,W.watched x a b):=by unfold E5;rw[h]
def Mv(R:List AH)(W:By):Prop:=∀x c,W.af x=some c->W.late x=true->∃y∈c,y∈Az R
section
variable{n d}{cl}{R}{W}{x}{c}
theorem SO(W:By){x a b m}(u:m≠a)(hb:m≠b):(W.watched x a b).aa m=W.aa m:=by show AE (AE W.aa a (W.aa a++[x])) b (W.aa b++[x]) m=_;rw[AK _ _ hb,AK _ _ u]
structure On(n d)(cl)(R R')(W W':By)(x)(c:An):Prop where
 s:EK n d cl R' W'
 g:Grown d R R'
 late:∀z,z≠x->W'.late z=W.late z
 holds:W'.late x=true->∃y∈c,y∈Az R'
 aa:∀m,-m∈Az R->W'.aa m=W.aa m
 head:W'.head=W.head
theorem EK.fresh(h:EK n d cl R W)(E:cl x=some c)(T:W.late x=true):(E5 R W d x c=(true,R,W)/\∀l∈c,-l∈Az R)\/((E5 R W d x c).1=false/\On n d cl R (E5 R W d x c).2.1 W (E5 R W d x c).2.2 x c):=by
 cases u:BX R c with
 |nil=>exact .inl ⟨P5 u,h.bw u⟩
 |cons a t=>
  refine .inr ?_;cases t with
  |nil=>
   by_cases H:CN R c=true;rw[NC u H];exact⟨rfl,h,Grown.refl _ _,λ_ _=>rfl,λ_=>h.holds H,λ_ _=>rfl,rfl⟩;have J:CN R c=false:=by simp_all
   rw[Qv u J];obtain⟨_,U,V,Z⟩:=h.one E u J;exact⟨rfl,U,⟨[⟨a,d,x⟩],rfl,by simp;have:=(h.ok x c E).1.1;omega⟩,λ_ _=>rfl,λ_=>⟨a,V,Z⟩,λ_ _=>rfl,rfl⟩
  |cons b t=> rw[PJ u];have ab:=((GM h.ah.aE).1 (u▸yx ..:a∈BX R c)).2;have hb:=((GM h.ah.aE).1 (u▸yj _ (yx ..):b∈BX R c)).2;refine⟨rfl,h.two E T u,Grown.refl _ _,λz aa=>AK _ _ aa,λe=>?_,λm ac=>SO W ?_ ?_,rfl⟩;have O:AE W.late x false x=true:=e;rw[AO]at O;cases O;grind;grind
structure IP(n d)(cl)(R0 R)(W0 W:By)(ks:An)(i):Prop where
 s:EK n d cl R W
 g:Grown d R0 R
 rest:∀z∈ks.drop i,W.late z=true
 done:∀z c,W.af z=some c->W.late z=true->z∈ks.drop i\/∃y∈c,y∈Az R
 head:W.head=W0.head
theorem IP.start{u}(h:EK n d cl R W)(E:∀z,z∈u↔W.late z=true):IP n d cl R R W W u 0:=⟨h,Grown.refl _ _,λz H=>(E z).1 (by simp_all),λz c _ J=>.inl (by simp_all),rfl⟩
theorem OK(h:EK n d cl R W)(E:W.late x=true):∃c,cl x=some c:=by
 cases u:W.af x with
 |none=>have:=(h.aG.out x u).2;rw[E]at this;simp_all
 |some c=>exact⟨c,by rw[<-h.at_,u]⟩
theorem IP.next{O T E i R' W'}(h:IP n d cl O R T W E i)(ab:E.Nodup)(U:E[i]? =some x)(ac:cl x=some c)(u:On n d cl R R' W W' x c):IP n d cl O R' T W' E (i+1):=by
 have H:E.drop i=x::E.drop (i+1):=by rw[y8 (zl.1 U).1,(zl.1 U).2]
 have V:(E.drop i).Nodup:=ab.sublist (List.drop_sublist _ _);rw[H,xx]at V;refine⟨u.s,h.g.trans u.g,λz ad=>?_,λz e Z J=>?_,u.head.trans h.head⟩;have ae:z≠x:=λe=>V.1 (e▸ad);rw[u.late z ae];exact h.rest z (by rw[H];simp_all);by_cases aa:z=x;subst aa;have:cl z=some e:=by rw[<-u.s.at_];exact Z
 rw[ac]at this;cases this;exact .inr (u.holds J);rw[u.late z aa]at J;have af:W.af z=some e:=by rw[h.s.at_,<-u.s.at_];exact Z
 rcases h.done z e af J with g|⟨y,ag,ah⟩;rw[H]at g;simp_all;exact .inr ⟨y,ag,u.g.lits ah⟩
theorem IP.end_{E H u}(h:IP n d cl E R H W u u.length):Mv R W:=λz e J O=>by rcases h.done z e J O with g|g;rw[abr]at g;cases g;omega
structure Fz(n d)(cl)(l)(R0 R)(W0 W:By)(list:An)(i):Prop where
 s:EK n d cl R W
 g:Grown d R0 R
 aa:W.aa l=list.drop i
 late:Mv R W
 head:W.head=W0.head
 bU:-l∈Az R
theorem Fz.start{l}(h:EK n d cl R W)(u:Mv R W)(E:-l∈Az R):Fz n d cl l R R W W (W.aa l) 0:=⟨h,Grown.refl _ _,AG,u,rfl,E⟩
theorem Hd{u:An}{i x}(E:u[i]? =some x):u.drop i=x::u.drop (i+1):=by rw[y8 (zl.1 E).1,(zl.1 E).2]
theorem Nv{x l}(h:(x::l).Nodup):AX (x::l) x=l:=by rw[xx]at h;grind[AX,List.filter_cons_of_neg,List.filter_eq_self]
theorem Fz.at_{l O T H i}(h:Fz n d cl l O R T W H i)(U:H[i]? =some x):∃(c:An)(other:Int)(left:Bool),cl x=some c/\W.af x=some c/\W.two x=some (if left then(l,other)else(other,l))/\W.late x=false/\l≠other/\l∈c/\other∈c:=by
 have V:x∈W.aa l:=by rw[h.aa,Hd U];simp_all
 obtain⟨a,b,u,Z⟩:=h.s.aG.only x l V;cases E:W.af x with
 |none=>have:=(h.s.aG.out x E).1;rw[u]at this;simp_all
 |some c=>
  rcases h.s.aG.split x c E with⟨_,g⟩|⟨aa,p,q,J,ab,ac,ad⟩;rw[u]at g;cases g;rw[u]at J;cases J;have ae:cl x=some c:=by rw[<-h.s.at_];exact E
  rcases Z with rfl|rfl;simp_all;exact⟨c,a,false,ae,rfl,by rw[u];rfl,aa,λe=>ab e.symm,ad,ac⟩
theorem Fz.cg{l E H u i}(h:Fz n d cl l E R H W u i)(J:u[i]? =some x){other y}{left:Bool}(T:W.af x=some c)(U:W.two x=some (if left then(l,other)else(other,l))) (V:y∈c)(O:y≠l)(Z:y≠other)(aa:-y∉Az R):Fz n d cl l E R H (W.cg x l y other left) u (i+1):=by refine⟨⟨h.s.az,h.s.ah,h.s.aG.cg T U V O Z aa,h.s.at_,h.s.ok⟩,h.g,?_,h.late,h.head,h.bU⟩;show AE (AE W.aa l (AX (W.aa l) x)) y (W.aa y++[x]) l=_;have ab:=h.s.aG.once l;rw[AK _ _ (λe=>O e.symm),AO,h.aa,Hd J,Nv (by rw[<-Hd J,<-h.aa];exact ab)]
theorem EK.aO(h:EK n d cl R W){a b}(u:W.af x=some c)(E:W.two x=some (a,b)):EK n d cl R (W.aO x a b):=⟨h.az,h.ah,h.aG.aO u E,h.at_,h.ok⟩
theorem Fz.aO{l O T E i}(h:Fz n d cl l O R T W E i)(U:E[i]? =some x){a b}(V:cl x=some c)(ag:W.two x=some (a,b))(ab:l=a\/l=b){R' W'} (u:On n d cl R R' (W.aO x a b) W' x c):Fz n d cl l O R' T W' E (i+1):=by
 have ac:=h.s.aG.once l;have ah:W.af x=some c:=by rw[h.s.at_];exact V
 refine⟨u.s,h.g.trans u.g,?_,λz e Z H=>?_,u.head.trans h.head,u.g.lits h.bU⟩;rw[u.aa l h.bU,Iy,zq ab,h.aa,Hd U,Nv (by rw[<-Hd U,<-h.aa];exact ac)];by_cases J:z=x;subst J;have:cl z=some e:=by rw[<-u.s.at_];exact Z
 rw[V]at this;cases this;exact u.holds H;rw[u.late z J]at H;have aa:AE W.late x true z=true:=H;rw[AK _ _ J]at aa;have ad:W.af z=some e:=by rw[h.s.at_,<-u.s.at_];exact Z
 obtain⟨y,ae,af⟩:=h.late z e ad aa;exact⟨y,ae,u.g.lits af⟩
structure Oc(n d)(cl)(R0 R)(W)(now):Prop where
 s:EK n d cl R W
 g:Grown d R0 R
 late:Mv R W
 pre:∃u,Az R=now++u
 bM:W.head<now.length\/now=Az R
theorem Oc.seen{U J H O now' y}(h:Oc n d cl U R W O)(Z:O[W.head]? =some y)(E:Fz n d cl (-y) R J W H (W.aa (-y)) (W.aa (-y)).length) (V:now'=if W.head+1=O.length then Az J else O):Oc n d cl U J {H with head:=H.head+1} now':=by
 obtain⟨u,ad⟩:=h.pre;have ae:=(zl.1 Z).1;have aa:(Az J)[H.head]? =some y:=by obtain⟨v,T,_⟩:=E.g;rw[E.head,T];grind[Az,List.append_assoc,List.getElem?_append_left]
 have ab:H.aa (-y)=[]:=by rw[E.aa,abr]
 have ac:EK n d cl J {H with head:=H.head+1}:=⟨E.s.az,E.s.ah,E.s.aG.seen aa ab,E.s.at_,E.s.ok⟩;have af:∃u,Az J=O++u:=by obtain⟨v,T,_⟩:=E.g;rw[T];grind[Az,List.append_assoc]
 refine⟨ac,h.g.trans E.g,E.late,?_,?_⟩;rw[V];split;simp_all;omega;rw[V];split;simp_all;refine .inl ?_;show H.head+1<O.length;rw[E.head];omega
theorem Oc.calm{H u}(h:Oc n d cl H R W u)(E:¬W.head<u.length):∀x c,cl x=some c->Calm R c:=by have e:=h.bM.resolve_left E;have O:=h.s.aG.head;rw[e]at E;have:=h.s.aG.calm Ad h.late;intro x c J;exact this x c (by rw[h.s.at_];exact J)
end
def GY(wr:Aj)(v0:Aw)(za:Nat)(xs:An)(v:Aw)(u:Aj):Prop:=Ay u za v xs/\(∀k,v.ownBlock=some k->v0.ownBlock=some k\/wr<=k)/\Au (λb=>v0.ownBlock=some b) wr u
def Dr{wr W:Aj}{v0:Aw}{za:Nat}{xs:An}(h:Cm wr (GY wr v0 za xs) W):Au (λb=>v0.ownBlock=some b) wr W:=by rcases h with h|⟨v,H,⟨_,_,u⟩,E⟩;exact h.stay;exact u.aR E
def I0(W:By)(x a b:Int):Nat->Int->An
 |0=>W.aa
 |1=>AE W.aa a (W.aa a++[x])
 |_=>AE (AE W.aa a (W.aa a++[x])) b (AE W.aa a (W.aa a++[x]) b++[x])
def Vi(W:By){x a b:Int}(u:a≠b):I0 W x a b 2=(W.watched x a b).aa:=by show AE _ b (AE W.aa a (W.aa a++[x]) b++[x])=AE _ b (W.aa b++[x]);rw[AK _ _ (yb u)]
structure GA where
 base:Nat
 ap:Nat
 al:Nat
 au:Nat
 q:Nat
 vars:Nat
 aF:An
structure EQ(w0:Aj)(F:Nat->Prop)(C:GA)(R:List AH)(W:By)(zg:An)(w:Aj)(Y:C7)(lv bv:Aw):Prop where
 ab:Bl w C.base C.ap C.al Y W zg
 ah:Bm w C.base C.al C.au lv bv C.vars R C.aF
 bo:∀b,EW Y W b->¬Ec C.al C.au lv bv b
 av:Y.q=C.q
 st:Au F w0 w
 cw:∀b,EW Y W b->F b\/w0<=b
 cv:∀b,Ec C.al C.au lv bv b->F b\/w0<=b
section
variable{w0 w w':World}{F:Nat->Prop}{C:GA}{R R':List AH}{W W':By}{zg seen':List Int}{Y Y':C7}{lv bv:Value}
theorem EQ.ext(h:EQ w0 F C R W zg w Y lv bv)(u:Ae w w'):EQ w0 F C R W zg w' Y lv bv:=⟨h.ab.ext u,h.ah.ext u,h.bo,h.av,h.st.aR u,h.cw,h.cv⟩
theorem EQ.ej(h:EQ w0 F C R W zg w Y lv bv)(O:Fx w w' C.base C.al C.au lv bv C.vars R' C.aF):∃u E,EQ w0 F C R' W zg w' Y u E:=by obtain⟨u,E,T,H,J⟩:=O;refine⟨u,E,h.ab.stay H (λb hb=>h.bo b hb),T,λb hb U=>?_,h.av,h.st.trans H (λj Z V=>(h.cv j V).resolve_right Ad),h.cw,λb hb=>?_⟩;rcases J b U with g|g;exact h.bo b hb g;have:=(h.ab.lt hb).2;omega;rcases J b hb with g|g;exact h.cv b g;exact .inr (z7 h.st.size g)
theorem EQ.aW(h:EQ w0 F C R W zg w Y lv bv)(J:Bl w' C.base C.ap C.al Y' W' seen')(E:Au (EW Y W) w w')(H:∀b,EW Y' W' b->EW Y W b\/w<=b)(O:Y'.q=Y.q):EQ w0 F C R W' seen' w' Y' lv bv:=by refine⟨J,h.ah.same (λb hb u=>E.block b hb (λT=>h.bo b T u)),λb hb u=>?_,O.trans h.av,h.st.trans E (λj V U=>(h.cw j U).resolve_right Ad),λb hb=>?_,h.cv⟩;rcases H b hb with g|g;exact h.bo b g u;have:=(h.ah.lt u).2;omega;rcases H b hb with g|g;exact h.cw b g;exact .inr (z7 h.st.size g)
theorem EQ.start(u:Bl w C.base C.ap C.al Y W zg)(E:Bm w C.base C.al C.au lv bv C.vars R C.aF)(H:∀b,EW Y W b->¬Ec C.al C.au lv bv b)(J:Y.q=C.q):EQ w (λb=>EW Y W b\/Ec C.al C.au lv bv b) C R W zg w Y lv bv:=⟨u,E,H,J,Au.refl _ _,λ_ h=>.inl (.inl h),λ_ h=>.inl (.inr h)⟩
theorem GV{u:Int->Aw}(E:W'.af=W.af)(H:∀l k,(u l).ownBlock=some k->(Y.bv l).ownBlock=some k\/w<=k):∀b,EW {Y with bv:=u} W' b->EW Y W b\/w<=b:=by intro b hb;rcases hb with g|g|g|g|g|⟨x,c,J,g⟩|⟨l,g⟩;exact .inl (.inl g);exact .inl (.inr (.inl g));exact .inl (.inr (.inr (.inl g)));exact .inl (.inr (.inr (.inr (.inl g))));exact .inl (.inr (.inr (.inr (.inr (.inl g)))));exact .inl (.inr (.inr (.inr (.inr (.inr (.inl ⟨x,c,by rw[<-E];exact J,g⟩))))));rcases H l b g with e|e;exact .inl (.inr (.inr (.inr (.inr (.inr (.inr ⟨l,e⟩))))));exact .inr e
theorem DH(u:W'.af=W.af):∀b,EW Y W' b->EW Y W b:=by intro b hb;unfold EW at *;rw[u]at hb;exact hb
end
def RI{R:List AH}{c:An}{a:Int}(h:a∈BX R c):a∈c:=(ye.1 h).1
def Gb(w0:Aj)(F:Nat->Prop)(C:GA)(zg:An)(R:List AH)(W:By)(d x:Int)(c:An)(e:Bz)(w':Aj):Prop:=e=.returned (.bool (E5 R W d x c).1)/\∃Y lv bv,EQ w0 F C (E5 R W d x c).2.1 (E5 R W d x c).2.2 zg w' Y lv bv
def Ac5(U w:Aj)(F:Nat->Prop)(C:GA)(lv H:Aw)(Y:C7)(W:By)(zg:An)(R:List AH)(d x:Int)(c:An)(J:EQ U F C R W zg w Y lv H)(E:W.af x=some c)(ad:BX R c=[]):AC 296 #[.pointer Y.q,x] w (Gb U F C zg R W d x c):=by
 have u:=J.ab;have ae:=J.ah;have V:=u.pair x c E;obtain⟨A,n,af,ag,Z,_⟩:=V.2.aQ (by have:=(u.cls x c E).2.1;omega) (λl ah=>by have:=(u.cls x c E).2.2 l ah;omega);have aj:=Py w C.base C.al C.au lv H C.vars R C.aF Y.q (Y.ak x) A n af c ae (u.J.cell 1) (by rw[<-ag];exact V.1.cell 0) Z (by have:=Z.1;have:=(u.cls x c E).2.1;omega) (u.cls x c E).2.2;have ao:=u.J.cell 2;have aq:=u.b1 E;have aa:=zk ad;go_enter func296,ntmps296;go_wp2_with fail
 refine aj.mono ?_;rintro e O⟨v,rfl,T,ak⟩;rw[aa.out]at T;obtain⟨ab,al,ac,rfl⟩:=T.form;obtain rfl:al=0:=T.aL;have au:=Aq.new O 385 #[.bool (CN R c),.slice ab 0 ac];have am:Ae O (O.alloc (.cells #[.bool (CN R c),.slice ab 0 ac] 385)):=by grind
 have an:=ak.trans am;go_wp2;go_ret;rw[Gb,P5 aa];exact⟨rfl,Y,lv,H,J.ext an⟩
def AdB(V w:Aj)(F:Nat->Prop)(C:GA)(lv H:Aw)(Y:C7)(W:By)(zg:An)(R:List AH)(d x a:Int)(c:An)(J:EQ V F C R W zg w Y lv H)(E:W.af x=some c)(af:BX R c=[a])(Z:CN R c=true):AC 296 #[.pointer Y.q,x] w (Gb V F C zg R W d x c):=by
 have u:=J.ab;have ag:=J.ah;have aa:=u.pair x c E;obtain⟨A,n,ah,aj,ab,_⟩:=aa.2.aQ (by have:=(u.cls x c E).2.1;omega) (λl ak=>by have:=(u.cls x c E).2.2 l ak;omega);have O:=Py w C.base C.al C.au lv H C.vars R C.aF Y.q (Y.ak x) A n ah c ag (u.J.cell 1) (by rw[<-aj];exact aa.1.cell 0) ab (by have:=ab.1;have:=(u.cls x c E).2.1;omega) (u.cls x c E).2.2;have av:=u.J.cell 2;have aw:=u.b1 E;unfold Q4 at O;rw[Z]at O;have al:=zk Z;have am:=O;have ac:=zk af;go_enter func296,ntmps296;go_wp2_with fail
 refine am.mono ?_;rintro e T⟨v,rfl,U,an⟩;rw[ac.out]at U;obtain⟨ad,ao,ae,rfl⟩:=U.form;obtain rfl:ao=1:=U.aL;have ax:=Aq.new T 385 #[true,.slice ad 1 ae];have aq:Ae T (T.alloc (.cells #[true,.slice ad 1 ae] 385)):=by grind
 have au:=an.trans aq;go_wp2;go_ret;rw[Gb,NC ac al];exact⟨rfl,Y,lv,H,J.ext au⟩
def AcG(aj w:Aj)(F:Nat->Prop)(C:GA)(lv ab:Aw)(Y:C7)(W:By)(zg:An)(R:List AH)(d x a:Int)(c:An)(ac:EQ aj F C R W zg w Y lv ab)(H:W.af x=some c)(ak:BX R c=[a])(ad:CN R c=false)(au:BS R d C.aF)(al:Gx ⟨C.vars,R,d⟩ a x=0)(av:R.length<1000000000):AC 296 #[.pointer Y.q,x] w (Gb aj F C zg R W d x c):=by
 have u:=ac.ab;have aw:=ac.ah;skip;have ae:=u.pair x c H;obtain⟨A,n,ax,am,af,_⟩:=ae.2.aQ (by have:=(u.cls x c H).2.1;omega) (λl ay=>by have:=(u.cls x c H).2.2 l ay;omega);have U:=Py w C.base C.al C.au lv ab C.vars R C.aF Y.q (Y.ak x) A n ax c aw (u.J.cell 1) (by rw[<-am];exact ae.1.cell 0) af (by have:=af.1;have:=(u.cls x c H).2.1;omega) (u.cls x c H).2.2;have az:=u.J.cell 2;have aA:=u.b1 H;unfold Q4 at U;rw[ad]at U;have aB:=zk ad;have aN:=zk H;have aC:=zk al;have aD:=U;have an:=zk ak;clear ae am af U H ak ad al;go_enter func296,ntmps296;go_wp2_with fail
 refine aD.mono ?_;rintro e J⟨v,rfl,V,ag⟩;rw[an.out]at V;obtain⟨O,T,rfl,_⟩:=V.full AG;have ao:=V.bm (j:=0) rfl;simp only[List.length_singleton]at *;have ah:=Aq.new J 385 #[false,.slice O 1 T];have d0:=ah.cell 0;have d1:=ah.cell 1;have Z:Ae J (J.alloc (.cells #[false,.slice O 1 T] 385)):=by grind
 have aE:=λW'(E:Ae (J.alloc (.cells #[false,.slice O 1 T] 385)) W')=>E.cell (Z.cell (ag.cell (u.J.cell 1)));have aF:=λW'(E:Ae (J.alloc (.cells #[false,.slice O 1 T] 385)) W')=>E.cell d1;have aG:=λW'(E:Ae (J.alloc (.cells #[false,.slice O 1 T] 385)) W')=>E.cell (Z.cell ao);have aH:=ag.trans Z;clear ah ag Z V az aA ao;go_wp2;refine CA Dz (n:=9) AJ rfl rfl ?_;simp only[List.take_succ_cons,List.take_zero];have aI:Ht Ae:=Dz;(repeat first|apply Gv aI rfl (λW E=>Am) Am|apply AS rfl Am);refine AN λW' E=>?_;have aq:=ac.ext (aH.trans E);have aJ:=Sj W' C.base C.al C.au lv ab ⟨C.vars,R,d⟩ C.vars C.aF a x rfl aq.ah au av;clear E aE aF aG;go_wp2_with fail
 refine aJ.mono ?_;rintro e w2⟨rfl,aa,_⟩;unfold Hw at aa;rw[zq aC.out]at aa;obtain⟨aK,aL,aM⟩:=aq.ej aa;clear aa;go_wp2;go_ret;rw[Gb,Qv an aB];exact⟨rfl,Y,aK,aL,aM⟩
def LX(x:Int)(v:Value)(W:World):Prop:=∃u c,v=.slice (some u) 1 c/\W.cell? u=some (.int .i64 x)
def LX.ext{x:Int}{v:Aw}{W W':Aj}(h:LX x v W)(u:Ae W W'):LX x v W':=let⟨E,c,H,J⟩:=h;⟨E,c,H,u.cell J⟩
def LX.new(W:Aj)(x:Int):LX x (.slice W 1 1) (W.alloc (.cells #[x] 3)):=⟨_,_,rfl,BD W _ _⟩
def Ahz{t:An}{a b:Int}:2<=(a::b::t).length:=AG
def Ac0(aL w:Aj)(F:Nat->Prop)(C:GA)(lv bv:Aw)(Y:C7)(W:By)(zg:An)(R:List AH)(d x a b:Int)(t c:An)(aM:EQ aL F C R W zg w Y lv bv)(V:W.af x=some c)(aF:BX R c=a::b::t)(a1:a≠b)(a5:∀m,x∉W.aa m):
 AC 296 #[.pointer Y.q,x] w (Gb aL F C zg R W d x c):=by
 have U:=aM.ab
 have a6:=aM.ah
 skip
 have af:=U.pair x c V
 obtain⟨A,n,au,a7,aN,_⟩:=af.2.aQ (by have:=(U.cls x c V).2.1;omega) (λl bt=>by have:=(U.cls x c V).2.2 l bt;omega)
 have bu:=Py w C.base C.al C.au lv bv C.vars R C.aF Y.q (Y.ak x) A n au c a6 (U.J.cell 1) (by rw[<-a7];exact af.1.cell 0) aN (by have:=aN.1;have:=(U.cls x c V).2.1;omega) (U.cls x c V).2.2
 have bw:=U.J.cell 2
 have bx:=U.b1 V
 have aG:=zk V
 have aO:=(U.cls x c V).1
 have a8:a∈BX R c:=by rw[aF];simp
 have a9:b∈BX R c:=by rw[aF];simp
 have ba:=(U.cls x c V).2.2 a (RI a8)
 have bc:=(U.cls x c V).2.2 b (RI a9)
 have bd:=zk aF
 have bz:=af.1
 clear af a7 aN U a6 V aF a8 a9
 go_enter func296,ntmps296
 go_wp2_with fail
 refine bu.mono ?_
 rintro e ag⟨v,rfl,ak,be⟩
 rw[bd.out]at ak
 obtain⟨aq,av,rfl,_⟩:=ak.full AG
 have bf:=ak.bm (j:=0) rfl
 have bh:=ak.bm (j:=1) rfl
 have bA:=(ak.J aq rfl).1
 obtain⟨n,aH⟩:∃n:Nat,(a::b::t).length=n:=⟨_,rfl⟩
 have bi:2<=n:=by rw[<-aH];exact Ahz
 have bJ:((n:Int)==0)=false:=yv.2 Ad
 have ab:decide ((2:Int)<=n)=true:=zt Ad
 have bB:=ak.bm (j:=0) rfl
 rw[aH]at *
 generalize bC:CN R c=hb at *
 have aP:=Aq.new ag 385 #[hb,.slice aq n av]
 have d0:=aP.cell 0
 have d1:=aP.cell 1
 have aI:Ae ag (ag.alloc (.cells #[hb,.slice aq n av] 385)):=by grind
 have bD:=λW'(u:Ae (ag.alloc (.cells #[hb,.slice aq n av] 385)) W')=>u.cell d1
 have ad:=λW'(u:Ae (ag.alloc (.cells #[hb,.slice aq n av] 385)) W')=>u.cell (aI.cell bf)
 have ac:=λW'(u:Ae (ag.alloc (.cells #[hb,.slice aq n av] 385)) W')=>u.cell (aI.cell bh)
 have bj:=be.trans aI
 have bK:=zk aH
 have bL:=bi
 have bM:(0:Int)<n:=Ad
 have bN:(1:Int)<n:=Ad
 have bO:0<n:=Ad
 have bP:1<n:=Ad
 clear aP be aI ak bw bx bf bh aH bi bC bB bA
 go_wp2
 refine CO (n:=12) AJ rfl rfl ?_
 simp only[List.take_succ_cons,List.take_zero]
 (repeat first|apply Bg rfl (λW u=>Am) Am|apply AS rfl Am)
 refine AN λaQ u=>?_
 have aw:=bz.ext (bj.trans u)
 have f1:=aw.frozen 1
 have f2:=aw.frozen 2
 have al:=aw.cell 1
 have ae:=aw.cell 2
 have bk:=aM.ext (bj.trans u)
 have bQ:=zk (u.cell d0)
 clear u bD ad ac d0 d1
 go_wp2
 generalize aJ:(aQ.setCell ⟨Y.ak x,1,none⟩ a).setCell ⟨Y.ak x,2,none⟩ b=bn at *
 have aR:Au (λk=>k=Y.ak x) aQ bn:=by rw[<-aJ];exact((Au.refl (λk=>k=Y.ak x) aQ).setCell (p:=⟨Y.ak x,1,none⟩) (.inl rfl) _).setCell (p:=⟨Y.ak x,2,none⟩) (.inl rfl) _
 have aS:Aq bn (Y.ak x) 307 #[Y.aw x,a,b]:=by rw[<-aJ];exact(aw.ad 1 a).ad 2 b
 have ax:=bk.aW (bk.ab.cY (x:=x) aG (o:=some (a,b)) aR aS) (aR.mono (λj _ H=>.inr (.inr (.inr (.inr (.inr (.inl ⟨x,c,aG,.inl H⟩))))))) (λb hb=>.inl (DH rfl b hb)) rfl
 have bR:=zk aJ
 have bS:=aS.cell 1
 have bT:=aS.cell 2
 clear aR aJ al ae f1 f2
 go_loopw[44](λi wr=>∃(k:Nat)(ay:Int->Aw),i=k/\k<=2/\EQ aL F C R {W with two:=AE W.two x (some (a,b)),aa:=I0 W x a b k} zg wr {Y with bv:=ay} lv bv)(λi _=>2-(intOf i).toNat)
 case atStart=>exact⟨0,Y.bv,rfl,Ad,ax⟩
 case round=>
  obtain⟨k,ay,rfl,ah,E⟩:=hrel
  skip
  have bU:=Q6 a b
  have bV:=QS a b
  have bE:x∉I0 W x a b 1 b:=by
   show x∉AE W.aa a (W.aa a++[x]) b
   rw[AK _ _ (yb a1)];exact a5 b
  rcases(show k=0\/k=1\/k=2 by omega)with rfl|rfl|rfl
  . go_wp2
    obtain⟨J,O,cl,T⟩:=(E.ab.aH a).form
    dsimp only at T
    have az:Ay wr C.base (.slice J O cl) (I0 W x a b 0 a):=by have:=E.ab.aH a;dsimp only at this;rw[T]at this;exact this
    have aA:∀g,(Value.slice J O cl).ownBlock=some g->g≠Y.q:=λg e ab=>by subst ab;exact az.ai E.ab.J Ax e
    have aT:=λW'(u:Cm wr (GY wr (.slice J O cl) C.base (I0 W x a b 0 a++[x])) W')=>(Dr u).cell (E.ab.J.cell 3) (λe=>aA _ e rfl)
    have lb:=λW'(u:Cm wr (GY wr (.slice J O cl) C.base (I0 W x a b 0 a++[x])) W')=>E.ab.cq (l:=a) ba (by dsimp only;rw[T];exact Dr u)
    dsimp only at lb
    rw[T]at lb
    have am:=zk T
    clear aA T
    refine GC (LX x) (GY wr (.slice J O cl) C.base (I0 W x a b 0 a++[x])) (n:=12) (db:=59) (dk:=60) AJ rfl rfl rfl rfl rfl rfl (λv W' bF an ao=>an.ext ao) ?_
    simp only[List.take_succ_cons,List.take_zero]
    (repeat apply Ky rfl rfl rfl (λW u=>Am) Am)
    refine AN ⟨⟨by rfl,λW' u=>⟨_,_,by go_simp,by grind,LX.new W' x⟩⟩,λaU W' u aV=>?_,λaU v ag W' aW u=>?_⟩
    obtain⟨aX,au,rfl,aY⟩:=aV
    have bG:(I0 W x a b 0 a).length<=1000000000:=E.ab.bN a
    refine BW W' rfl (.tmp 57) (.tmp 59) rfl C.base (.slice J O cl) (I0 W x a b 0 a) rfl (az.ext u) aX au x rfl aY (by have:=aO;omega) Ad (by have:=E.ab.ge.1;have:=E.ab.J.lt;have:=u.size;dsimp only at *;omega) ?_
    intro aZ w' an ao Z
    refine Cp aZ rfl ⟨an,λk ah=>?_,(u.stay.grown ao (λk e=>.inl e))⟩
    rcases Z with Z|Z
    exact .inl (by rw[<-Z];exact ah)
    rw[Z]at ah;cases ah;exact .inr u.size
    obtain⟨al,ae,aB⟩:=aW
    have aC:∀y∈I0 W x a b 0 a++[x],∃c,W.af y=some c:=λy aa=>by
     rcases zz.1 aa with aa|aa
     exact E.ab.a6 a y aa
     exact⟨c,by rw[zy.1 aa];exact aG⟩
    have aD:(I0 W x a b 0 a++[x]).Nodup:=by
     rw[y2]
     exact⟨E.ab.once a,AG,λp af q aE=>by simp at aE;subst aE;rintro rfl;exact a5 a af⟩
    obtain⟨aK,ad,ac,aj⟩:=E.ab.cy (l:=a) ba (by dsimp only;rw[am.out];exact aB) al (λk e=>(ae k e).imp (λe=>by dsimp only;rw[am.out];exact e) id) u aC aD
    have ax:=E.aW ac (aj.mono (λj _ H=>by
     rcases H with H|H
     exact .inr (.inr (.inr (.inr (.inr (.inr ⟨a,H⟩)))))
     exact .inr (.inr (.inl H)))) (GV rfl (λm k e=>by
     by_cases ab:m=a
     subst ab;rw[AO]at e
     refine(ae k e).imp (λe=>?_) id
     dsimp only
     rw[am.out];exact e
     rw[AK _ _ ab]at e;exact .inl e)) rfl
    refine Dl W' aK rfl (.tmp 50) (.tmp 51) (.tmp 60) rfl Y.ao a v rfl rfl rfl ad ?_
    clear ad ac aj al ae aB u aT lb aC aD
    go_wp2
    go_roundw
    case rel=>exact⟨1,AE ay a v,rfl,Ad,ax⟩
    case measure=>simp[intOf]
  . go_wp2
    obtain⟨J,O,cl,T⟩:=(E.ab.aH b).form
    dsimp only at T
    have az:Ay wr C.base (.slice J O cl) (I0 W x a b 1 b):=by have:=E.ab.aH b;dsimp only at this;rw[T]at this;exact this
    have aA:∀g,(Value.slice J O cl).ownBlock=some g->g≠Y.q:=λg e ab=>by subst ab;exact az.ai E.ab.J Ax e
    have aT:=λW'(u:Cm wr (GY wr (.slice J O cl) C.base (I0 W x a b 1 b++[x])) W')=>(Dr u).cell (E.ab.J.cell 3) (λe=>aA _ e rfl)
    have lb:=λW'(u:Cm wr (GY wr (.slice J O cl) C.base (I0 W x a b 1 b++[x])) W')=>E.ab.cq (l:=b) bc (by dsimp only;rw[T];exact Dr u)
    dsimp only at lb
    rw[T]at lb
    have am:=zk T
    clear aA T
    refine GC (LX x) (GY wr (.slice J O cl) C.base (I0 W x a b 1 b++[x])) (n:=12) (db:=59) (dk:=60) AJ rfl rfl rfl rfl rfl rfl (λv W' bF an ao=>an.ext ao) ?_
    simp only[List.take_succ_cons,List.take_zero]
    (repeat apply Ky rfl rfl rfl (λW u=>Am) Am)
    refine AN ⟨⟨by rfl,λW' u=>⟨_,_,by go_simp,by grind,LX.new W' x⟩⟩,λaU W' u aV=>?_,λaU v ag W' aW u=>?_⟩
    obtain⟨aX,au,rfl,aY⟩:=aV
    have bG:(I0 W x a b 1 b).length<=1000000000:=E.ab.bN b
    refine BW W' rfl (.tmp 57) (.tmp 59) rfl C.base (.slice J O cl) (I0 W x a b 1 b) rfl (az.ext u) aX au x rfl aY (by have:=aO;omega) Ad (by have:=E.ab.ge.1;have:=E.ab.J.lt;have:=u.size;dsimp only at *;omega) ?_
    intro aZ w' an ao Z
    refine Cp aZ rfl ⟨an,λk ah=>?_,(u.stay.grown ao (λk e=>.inl e))⟩
    rcases Z with Z|Z
    exact .inl (by rw[<-Z];exact ah)
    rw[Z]at ah;cases ah;exact .inr u.size
    obtain⟨al,ae,aB⟩:=aW
    have aC:∀y∈I0 W x a b 1 b++[x],∃c,W.af y=some c:=λy aa=>by
     rcases zz.1 aa with aa|aa
     exact E.ab.a6 b y aa
     exact⟨c,by rw[zy.1 aa];exact aG⟩
    have aD:(I0 W x a b 1 b++[x]).Nodup:=by
     rw[y2]
     exact⟨E.ab.once b,AG,λp af q aE=>by simp at aE;subst aE;rintro rfl;exact bE af⟩
    obtain⟨aK,ad,ac,aj⟩:=E.ab.cy (l:=b) bc (by dsimp only;rw[am.out];exact aB) al (λk e=>(ae k e).imp (λe=>by dsimp only;rw[am.out];exact e) id) u aC aD
    have ax:=E.aW ac (aj.mono (λj _ H=>by
     rcases H with H|H
     exact .inr (.inr (.inr (.inr (.inr (.inr ⟨b,H⟩)))))
     exact .inr (.inr (.inl H)))) (GV rfl (λm k e=>by
     by_cases ab:m=b
     subst ab;rw[AO]at e
     refine(ae k e).imp (λe=>?_) id
     dsimp only
     rw[am.out];exact e
     rw[AK _ _ ab]at e;exact .inl e)) rfl
    refine Dl W' aK rfl (.tmp 50) (.tmp 51) (.tmp 60) rfl Y.ao b v rfl rfl rfl ad ?_
    clear ad ac aj al ae aB u aT lb aC aD
    go_wp2
    go_roundw
    case rel=>exact⟨2,AE ay b v,rfl,Ad,ax⟩
    case measure=>simp[intOf]
  have bH:=E.ab.J.cell 4
  obtain⟨aK,ad,ac,aj⟩:=E.ab.dV (x:=x) aO 0
  dsimp only at bH ad
  have bI:=E.aW ac (aj.mono (λj _ H=>.inr (.inr (.inr (.inl H))))) (λb hb=>.inl (DH rfl b hb)) rfl
  clear ac aj
  go_wp2
  go_ret
  rw[Gb,PJ bd]
  refine⟨rfl,{Y with bv:=ay},lv,bv,?_⟩
  have br:=bI
  rw[Vi W a1]at br
  exact br
section
open Go.Maps Go.Shelf Go.Sort
attribute [local go_sem] acz
def AhD(m:Nat):AnyZI.SortsIn prog sortedA_ren Fence.wide m:=⟨λu off zh ss W E H J=>aa7.2 (slices_Sort_int u off zh ss W E H J),λp zh W=>aa7.2 (slices_Sort_int_none p zh W)⟩
def BB.eR{w:Aj}{b:Nat}{u:An}{f:Int->Option Aw}(h:BB w b u f):∃D:DataW Aw,w.ownsMap prog 3 N7 b u.length D/\Maps.size D=u.length/\u.Perm (intKeys D):=by
 obtain⟨⟨D,E,O,T⟩,U,V,Z⟩:=h;refine⟨D,E,O,?_⟩;refine CollectedI.perm (left:=λ_=>false) ⟨U,λx=>?_⟩ E DZ underlying3 (λ_=>rfl);by_cases H:Bj x;rw[(T x H).1,V];simp;constructor;intro aa;exact absurd (Z x aa) H;rintro⟨e,_⟩;exfalso;obtain⟨ag,rfl,ab⟩:=E.keysOf;rw[has_eq,y7]at e;obtain⟨p,ac,J⟩:=e;obtain⟨v,ad⟩:=ab p ac;obtain⟨y,_,ae,af⟩:=Maps.keyOf_i64 underlying3 ad;rw[ae]at J;have:y=x:=by simpa[Lit.sameKey]using J
 subst this;simp[Lit.wf]at af;have ah:IntKind.i64.min=-9223372036854775808:=rfl;have aj:IntKind.i64.max=Bh:=rfl;unfold Bj at H;omega
def Afn(u:Nat)(W:Aj):AC 295 #[.map (some u)] W λe w'=>e=.returned (.func (.func 342) #[] #[.pointer W])/\w'=W.alloc (.cells #[.map (some u)] 174):=(aa7 (n:=5)).1 (AnyZI.keys_in keysB Fence.wide 5 trivial rfl (some u) W)
def Z0(w:Aj)(b:Nat)(u:An)(f:Int->Option Aw)(h:BB w b u f)(ad:u.length<=1000000000):AC 180 #[.func (.func 342) #[] #[.pointer w]] (w.alloc (.cells #[.map (some b)] 174)) λe w'=>∃v,e=.returned v/\Ay w' w v (u.mergeSort λx y=>decide (x<=y))/\Ae w w':=by refine(aa7 (n:=5)).1 ?_;obtain⟨D,E,ae,H⟩:=h.eR;have U:=E.lt;have V:SeqGives Fence.wide 2 prog 342 #[.pointer w] encZ (λss=>ss.Perm (intKeys D)) (Maps.size D) (w.alloc (.cells #[.map (some b)] 174)):=AnyZI.keys_gives (ρ:=keysB_ren) {keysB with} Fence.wide _ trivial rfl Ad w b u.length D _ AG AG (by obtain⟨Z,clock,hb,aa,ab,ac⟩:=E;exact⟨Z,clock,(add _ _ b U).trans hb,aa,ab,ac⟩);have J:=AnyZI.sorted_in sortedA Fence.wide 5 trivial trivial trivial trivial rfl Ad (AhD _) (enters_of func239 AJ rfl) 342 #[.pointer w] trivial (enters_of func342 AJ rfl) _ _ (by unfold maxLen;omega) Ad _ V;change CallsIn _ _ prog 180 _ _ _ at J;refine J.mono ?_;rintro e w'⟨v,ss,rfl,O,T,af,hb⟩;refine⟨v,rfl,?_,((Below.refl _ w).alloc (zs _) _).trans (hb.mono AG)⟩;rw[mergeSort_of_perm_i (O.trans H.symm),O.length_eq.trans H.length_eq.symm]at T;exact ownsRow_base_a (show World.ownsRow _ _ _ _ _ (u.mergeSort _).length _ by rw[aco];exact T) AG
section
variable{w0 w w1 w':World}{F:Nat->Prop}{C:GA}{R R':List AH}{W W':By}{zg seen':List Int}{Y Y':C7}{lv bv lv' bv':Value}
def Gj(C:GA)(Y:C7)(W:By)(lv bv:Aw)(b:Nat):Prop:=EW Y W b\/Ec C.al C.au lv bv b
theorem EQ.again(h:EQ w0 F C R W zg w Y lv bv):EQ w (Gj C Y W lv bv) C R W zg w Y lv bv:=EQ.start h.ab h.ah h.bo h.av
theorem EQ.trans(h:EQ w0 F C R W zg w Y lv bv)(k:EQ w (Gj C Y W lv bv) C R' W' seen' w' Y' lv' bv'):EQ w0 F C R' W' seen' w' Y' lv' bv':=by have u:∀b,Gj C Y W lv bv b->F b\/w0<=b:=λb hb=>hb.elim (h.cw b) (h.cv b);refine⟨k.ab,k.ah,k.bo,k.av,h.st.trans k.st (λj H E=>(u j E).resolve_right Ad),λb hb=>?_,λb hb=>?_⟩;rcases k.cw b hb with g|g;exact u b g;exact .inr (z7 h.st.size g);rcases k.cv b hb with g|g;exact u b g;exact .inr (z7 h.st.size g)
theorem EQ.lt(h:EQ w0 F C R W zg w Y lv bv){b:Nat}(hb:Gj C Y W lv bv b):b<w:=hb.elim (λg=>(h.ab.lt g).2) (λg=>(h.ah.lt g).2)
end
def GL{d:Int}{R R':List AH}{E:An}(h:BS R d E)(O:Grown d R R'):BS R' d E:=by
 obtain⟨u,rfl,H⟩:=O;induction u generalizing R with
 |nil=>rw[yg];exact h
 |cons r u T=> have e:R++r::u=(R++[r])++u:=AG;rw[e];refine T ?_ (λs U=>H s (by simp[U]));have J:=Qu (S:=⟨0,R,d⟩) h r.lit r.reason;rw[<-(H r AG).1]at J⊢;exact J
def Ab6(w0:World)(F:Nat->Prop)(C:GA)(zg:List Int)(d:Int)(cl:Int->Option (List Int))(R:List AH)(W:By)(x:Int)(c:List Int)(e:Ending)(w':World):Prop:=∃b R' W' Y lv bv,e=.returned (.bool b)/\EQ w0 F C R' W' zg w' Y lv bv/\((b=true/\R'=R/\W'=W/\∀l∈c,-l∈Az R)\/(b=false/\On C.vars d cl R R' W W' x c))
def QV(w0 w:Aj)(F:Nat->Prop)(C:GA)(lv bv:Aw)(Y:C7)(W:By)(zg:An)(R:List AH)(d x:Int)(cl:Int->Option An)(c:An)(E:EQ w0 F C R W zg w Y lv bv)(u:EK C.vars d cl R W)(ad:BS R d C.aF)(O:cl x=some c)(Z:W.late x=true):AC 296 #[.pointer C.q,x] w (Ab6 w0 F C zg d cl R W x c):=by
 have J:W.af x=some c:=by rw[u.at_];exact O
 have ae:R.length<1000000000:=by have:=D5 u.az;have:=E.ah.aA;omega
 rw[<-E.av];have key:AC 296 #[.pointer Y.q,x] w (Gb w0 F C zg R W d x c):=by
  cases H:BX R c with
  |nil=>exact Ac5 w0 w F C lv bv Y W zg R d x c E J H
  |cons a t=>
   cases t with
   |nil=>
    by_cases aa:CN R c=true;exact AdB w0 w F C lv bv Y W zg R d x a c E J H aa;have ab:CN R c=false:=by simpa using aa
    exact AcG w0 w F C lv bv Y W zg R d x a c E J H ab ad (u.one O H ab).1 ae
   |cons b t=>
    have ac:(BX R c).Nodup:=(u.ok x c O).2.1.filter _;rw[H,xx]at ac;have af:W.two x=none:=by rcases u.aG.split x c J with⟨_,g⟩|⟨g,_⟩;exact g;rw[Z]at g;cases g
    exact Ac0 w0 w F C lv bv Y W zg R d x a b t c E J H (λe=>ac.1 (by rw[e];simp)) (λm ag=>by obtain⟨_,_,g,_⟩:=u.aG.only x m ag;rw[af]at g;cases g)
 refine key.mono ?_;rintro e w'⟨rfl,Y',lv',bv',T⟩;rcases u.fresh O Z with⟨U,V⟩|⟨U,V⟩;rw[U]at T⊢;exact⟨true,R,W,Y',lv',bv',rfl,T,.inl ⟨rfl,rfl,rfl,V⟩⟩;exact⟨_,_,_,Y',lv',bv',rfl,T,.inr ⟨U,V⟩⟩
end
def AeF(u:Aj)(F:Nat->Prop)(C:GA)(zg:An)(d:Int)(cl:Int->Option An)(R:List AH)(W:By)(e:Bz)(w':Aj):Prop:=∃r R' W' Y lv E,e=.returned (.int .i64 r)/\EQ u F C R' W' zg w' Y lv E/\EK C.vars d cl R' W'/\Grown d R R'/\W'.head=W.head/\((r=-1/\Mv R' W')\/(0<=r/\∃c,cl r=some c/\∀l∈c,-l∈Az R'))
def Ay.bZ{w:Aj}{b n c:Nat}{A:AD}{xs:An}(h:Ay w b (.slice A n c) xs)(u:xs.length<=Bh)(E:∀x∈xs,-9223372036854775808<=x/\x<=Bh):AB w A n xs:=by obtain⟨A',n',c',e,H,_⟩:=h.aQ u E;injection e with J O T;subst J O T;exact H
def MT{l:An}{x:Int}:x∈(l.mergeSort λx y=>decide (x<=y))↔x∈l:=(acx l _).mem_iff
def PC{l:An}(h:l.Nodup):(l.mergeSort λx y=>decide (x<=y)).Nodup:=(acx l _).nodup_iff.2 h
def AgN(al w:Aj)(F:Nat->Prop)(C:GA)(lv U:Aw)(Y:C7)(W:By)(zg:An)(R:List AH)(d:Int)(cl:Int->Option An)(O:EQ al F C R W zg w Y lv U)(ac:EK C.vars d cl R W)(aC:BS R d C.aF):AC 227 #[.pointer C.q] w (AeF al F C zg d cl R W):=by
 obtain⟨V,f,ad,aD,am⟩:=O.ab.late;have an:∀z,z∈V↔W.late z=true:=λz=>by rw[ad.2.2.1 z,aD z];cases W.late z<;>simp
 have aE:=ad.2.1;have aF:=O.ab.J.cell 4;rw[O.av]at aF;have ao:=Z0 w Y.a1 V f ad am;have aG:∀x∈V,0<=x/\x<=Bh:=λx E=>by obtain⟨c,aH⟩:=OK ac ((an x).1 E);exact(ac.ok x c aH).1
 obtain⟨ss,T⟩:∃ss,(V.mergeSort λx y=>decide (x<=y))=ss:=⟨_,rfl⟩;have aI:∀z,z∈ss↔W.late z=true:=λz=>by rw[<-T,MT,an]
 have aJ:ss.Nodup:=by rw[<-T];exact PC aE
 have aK:ss.length<=1000000000:=by rw[<-T,aco];exact am
 have aL:∀x∈ss,0<=x/\x<=Bh:=λx E=>aG x (by rw[<-T,MT]at E;exact E);rw[T]at ao;have aM:=ao;have aN:=zk aI;have aO:=aJ;have aP:=aK;have aQ:=aL;go_enter func227,ntmps227;go_wp2_with fail
 refine(Afn Y.a1 w).mono ?_;rintro e ae⟨rfl,rfl⟩;go_wp2_with fail
 refine aM.mono ?_;rintro e ae⟨v,rfl,af,aR⟩;obtain⟨A,n,c,rfl⟩:=af.form;have aS:n=ss.length:=af.aL;have ag:=O.ext aR;have aq:=af;have aT:=zk aS;go_wp2;go_loopw[12](λi wr=>∃(k:Nat)(J:List AH)(H:By)(Z:C7)(aa ab:Aw),i=k/\k<=n/\EQ ae (Gj C Y W lv U) C J H zg wr Z aa ab/\IP C.vars d cl R J W H ss k)(λi _=>n-(intOf i).toNat);case atStart=>exact⟨0,R,W,Y,lv,U,rfl,zx _,ag.again,IP.start ac aN⟩
 case round=>
  obtain⟨k,J,H,Z,aa,ab,rfl,a7,ah,u⟩:=hrel;by_cases aU:k<n;have aV:=(aq.stay ah.st (λb e hb=>by have a8:=O.lt hb;have a9:=(aq.J b e).1;omega)).bZ (by have:=aP;omega) (λl aW=>by have:=aQ l aW;omega);obtain⟨ba,x,rfl,E,bc,bd,be⟩:=aV.at_ aU;have au:H.late x=true:=u.rest x (by rw[Hd E];exact yx ..);obtain⟨aj,av⟩:=OK u.s au;have aX:=QV ae wr (Gj C Y W lv U) C aa ab Z H zg J d x cl aj ah u.s (GL aC u.g) av au;have ak:=zk av;go_wp2_with fail
  refine aX.mono ?_;rintro e w2⟨b,aw,ax,ay,az,aA,rfl,aB,aY⟩;rcases aY with⟨rfl,rfl,rfl,aZ⟩|⟨rfl,a1⟩;go_wp2;go_ret;exact⟨x,aw,ax,ay,az,aA,rfl,ag.trans aB,u.s,u.g,u.head,.inr ⟨(u.s.ok x aj ak).1.1,aj,ak,aZ⟩⟩
  . have a5:=u.next aO E ak a1;go_wp2;go_roundw;case rel=>exact⟨k+1,aw,ax,ay,az,aA,rfl,Ad,aB,a5⟩
    case measure=>simp[intOf];omega
  obtain rfl:k=n:=Ad;have a6:Mv J H:=by have:=u;rw[aT.out]at this;exact this.end_
  go_wp2;go_ret;exact⟨-1,J,H,Z,aa,ab,rfl,ag.trans ah,u.s,u.g,u.head,.inl ⟨rfl,a6⟩⟩
section
open Go.Shelf
def Te(g l other:Int)(p:Nat)(left:Bool)(w:Aj)(u:g=l)(E:l≠other)(H:w.cell? ⟨p,1,none⟩=some (.int .i64 (if left then l else other)))(J:w.cell? ⟨p,2,none⟩=some (.int .i64 (if left then other else l))):AC 174 #[.slice (some ⟨p,1,none⟩) 2 2,g] w λe w'=>e=.returned (.int .i64 (if left then 0 else 1))/\w'=w:=by
 subst u;have h:=slices_Index_int p 1 2 2 [if left then g else other,if left then other else g] g w AG Ax (λj O=>by
  match j,O with
  |0,_=>simpa using H
  |1,_=>simpa using J)
 refine h.mono ?_;rintro e w'⟨rfl,rfl⟩;refine⟨?_,rfl⟩;cases left with
 |true=>simp[Lib.idxOf,Lib.idxFrom]
 |false=>simp[Lib.idxOf,Lib.idxFrom,yb E]
def Qi(w:World)(za p O:Nat)(lv T:Value)(zb:Nat)(R:List AH)(U:List Int)(q V Z:Nat)(x l other:Int) (aa:Bm w za p O lv T zb R U)(af:w.cell? ⟨q,1,none⟩=some (.pointer (some ⟨p,0,none⟩)))(ag:w.cell? ⟨V,0,none⟩=some (.pointer (some ⟨q,0,none⟩)))(ah:w.cell? ⟨Z,0,none⟩=some (.int .i64 l))(aj:-100000<=x/\x<=100000):AC 297 #[x,other,.pointer Z,.pointer V] w λe w'=>e=.returned (.bool (decide (x≠l/\x≠other/\0<=CJ R x)))/\Ae w w':=by
 have ab:=FW w za p O lv T zb R U x aa Ad Ad;by_cases u:x=l
 . have ac:(x==l)=true:=by simpa using u
   have H:=zk u;go_enter func297,ntmps297;go_wp2;go_ret;exact⟨Bo (zn (λh=>h.1 H)).symm,Ae.refl _⟩
 . have ac:(x==l)=false:=by simpa using u
   have H:=zk u;by_cases E:x=other
   . have ad:(x==other)=true:=by simpa using E
     have J:=zk E;go_enter func297,ntmps297;go_wp2;go_ret;exact⟨Bo (zn (λh=>h.2.1 J)).symm,Ae.refl _⟩
   . have ad:(x==other)=false:=by simpa using E
     have J:=zk E;obtain⟨b,hb⟩:∃b,decide ((0:Int)<=CJ R x)=b:=⟨_,rfl⟩;go_enter func297,ntmps297;go_wp2_with fail
     refine ab.mono ?_;rintro e ak⟨rfl,ae⟩;go_wp2;go_ret;refine⟨Bo ?_,ae⟩;rw[<-(zk hb).out];simp[H.out,J.out]
end
structure FX(q g2 g3 g8:Nat)(l x:Int)(W:World)(foot:Nat->Prop):Prop where
 c2:W.cell? ⟨g2,0,none⟩=some (.pointer (some ⟨q,0,none⟩))
 aZ:W.cell? ⟨g3,0,none⟩=some (.int .i64 l)
 aK:W.cell? ⟨g8,0,none⟩=some (.int .i64 x)
 c4:¬foot g2
 dG:¬foot g3
 n8:¬foot g8
section
variable{q g2 g3 g8:Nat}{l x:Int}{W W':World}{foot foot' G:Nat->Prop}
theorem FX.bn(h:FX q g2 g3 g8 l x W foot)(u:Au G W W')(E:∀b,G b->foot b)(H:∀b,foot' b->foot b\/W<=b):FX q g2 g3 g8 l x W' foot':=by have J:=xu W _ h.c2;have O:=xu W _ h.aZ;have T:=xu W _ h.aK;dsimp only at J O T;refine⟨u.cell h.c2 (λg=>h.c4 (E _ g)),u.cell h.aZ (λg=>h.dG (E _ g)),u.cell h.aK (λg=>h.n8 (E _ g)),λg=>?_,λg=>?_,λg=>?_⟩;rcases H _ g with e|e;exact h.c4 e;omega;rcases H _ g with e|e;exact h.dG e;omega;rcases H _ g with e|e;exact h.n8 e;omega
theorem FX.ext(h:FX q g2 g3 g8 l x W foot)(u:Ae W W'):FX q g2 g3 g8 l x W' foot:=h.bn (G:=λ_=>False) u.stay (λ_ g=>g.elim) (λ_ g=>.inl g)
end
def Bl.dD{w:Aj}{za ap u:Nat}{Y:C7}{W:By}{zg:An}(h:Bl w za ap u Y W zg){x:Int}(O:0<=x/\x<=Bh)(E:W.late x=false):(Instr.lookup 174 (.map (some Y.a1)) x false).run prog w=.ok () w:=by obtain⟨T,f,H,J,_⟩:=h.late;rw[H.look Hz (by unfold Bj;omega),J x,E];rfl
def Kb{W:By}{x a b:Int}(u:a≠b):{W with two:=AE W.two x none,aa:=FA W x a b 2,late:=AE W.late x true}=W.aO x a b:=by show({W with two:=AE W.two x none,aa:=AE (AE W.aa a (AX (W.aa a) x)) b (AX (AE W.aa a (AX (W.aa a) x) b) x),late:=AE W.late x true}:By)=_;rw[AK _ _ (yb u)];rfl
def AdT(u:Aj)(F:Nat->Prop)(C:GA)(zg:An)(d:Int)(cl:Int->Option An)(l:Int)(R:List AH)(W:By)(e:Bz)(w':Aj):Prop:=∃r R' W' Y lv E,e=.returned (.int .i64 r)/\EQ u F C R' W' zg w' Y lv E/\EK C.vars d cl R' W'/\Grown d R R'/\((r=-1/\Fz C.vars d cl l R R' W W' (W.aa l) (W.aa l).length)\/(0<=r/\∃c,cl r=some c/\∀y∈c,-y∈Az R'))
def AgS(dn w:Aj)(F:Nat->Prop)(C:GA)(lv bv:Aw)(Y:C7)(W:By)(zg:An)(R:List AH)(d l:Int)(cl:Int->Option An)(cB:EQ dn F C R W zg w Y lv bv)(dp:EK C.vars d cl R W)(dq:BS R d C.aF)(dr:Mv R W)(a9:-l∈Az R):
 AC 228 #[.pointer C.q,l] w (AdT dn F C zg d cl l R W):=by
 have ds:-100000<=l/\l<=100000:=by
  obtain⟨r,dV,e⟩:=zw.1 a9
  have:=AU (cB.ah.ok r dV)
  omega
 have cC:Ae w ((w.alloc (.cells #[.pointer C.q] 172)).alloc (.cells #[l] 3)):=by grind
 have cD:=Aq.b0 w (.cells #[.pointer C.q] 172) 3 #[l]
 have cE:=(Aq.new w 172 #[.pointer C.q]).ext ((Ae.refl _).alloc (.cells #[l] 3))
 have bR:=zk cB
 have dW:=zk dp
 have dt:=zk dq
 have dX:=zk dr
 have dY:=zk a9
 have bw:=zk ds
 clear cB dp dq dr a9 ds
 go_enter func228,ntmps228
 go_wp2
 generalize du:(w.alloc (.cells #[.pointer C.q] 172)).alloc (.cells #[l] 3)=az at *
 have a1:=bR.ext cC
 have cF:=a1.ab.J.cell 3
 rw[a1.av]at cF
 obtain⟨dZ,dv,ea,aC⟩:=(a1.ab.aH l).form
 have a5:=a1.ab.aH l
 rw[aC]at a5
 have cG:∀y∈W.aa l,-9223372036854775808<=y/\y<=Bh:=λy bx=>by
  obtain⟨c,bV⟩:=a1.ab.a6 l y bx
  have:=(a1.ab.cls y c bV).1;omega
 have dw:dv=(W.aa l).length:=a5.aL
 have dx:=a5.bZ (by have:=a1.ab.bN l;omega) cG
 have bS:∀W',Cm az (λv au=>Ay au az v (W.aa l)/\Ae az au) W'->Ae az W':=λW' h=>by
  rcases h with h|⟨v,au,⟨_,aA⟩,aq⟩
  . exact h
  . exact aA.trans aq
 have aB:=λW'(E:Cm az (λv au=>Ay au az v (W.aa l)/\Ae az au) W')=>(bS W' E).cell (cE.cell 0)
 have a6:=λW'(E:Cm az (λv au=>Ay au az v (W.aa l)/\Ae az au) W')=>(bS W' E).cell (cD.cell 0)
 have ab:=λW'(E:Cm az (λv au=>Ay au az v (W.aa l)/\Ae az au) W')=>(bS W' E).cell cF
 have lb:=λW'(E:Cm az (λv au=>Ay au az v (W.aa l)/\Ae az au) W')=>(a1.ext (bS W' E)).ab.eM (l:=l) bw
 rw[aC]at lb
 have bz:=zk a1
 have eb:=zk dx
 have ec:=zk dw
 have ed:=zk cG
 have eB:=zk bS
 have ee:=zk cE
 have dy:=zk cD
 have ef:=zk cC
 have eC:=zk du
 clear a1 a5 dx dw cG bS cE cD cC du cF aC
 go_step3
 refine wp_seq_k λK eD=>?_
 refine Fr (λv au=>Ay au az v (W.aa l)/\Ae az au) (n:=6) (dk:=20) AJ rfl rfl rfl rfl ?_
 simp only[List.take_succ_cons,List.take_zero]
 (repeat apply Ky rfl rfl rfl (λW E=>Am) Am)
 refine AN ⟨λW' E=>?_,λv au wc aG E=>?_⟩
 . have a7:=Fm dZ dv ea (W.aa l) W' (eb.ext E) (by have:=bz.ab.bN l;have:=ec.out;omega)
   have bk:=zk a7
   have dz:=zk E
   clear a7 E aB a6 ab lb
   go_wp2_with fail
   refine bk.mono ?_
   rintro e w2⟨v,rfl,bn,cH⟩
   have eg:=zk bn
   have eh:=zk cH
   clear bn cH
   go_wp2
   exact Cp v rfl ⟨eg.bK dz.size,dz.trans eh⟩
 . obtain⟨dA,cI⟩:=aG
   have cv:=zk (dA.ext E)
   have bA:=zk (cI.trans E)
   clear dA cI E aB a6 ab lb
   obtain⟨A,n,c,rfl⟩:=cv.form
   have dB:=zk (cv.aL:n=(W.aa l).length)
   have eE:(n:Int)<=1000000000:=by have aA:=bz.ab.bN l;have aq:n=(W.aa l).length:=dB.out;omega
   have ei:∀(W':Aj),W'=W':=λ_=>rfl
   go_wp2
   go_step3
   go_wp2
   clear ei
   go_loopw[24](λi wr=>∃(k:Nat)(aO:List AH)(H:By)(J:C7)(ae af:Aw),i=k/\k<=n/\EQ wc (Gj C Y W lv bv) C aO H zg wr J ae af/\Fz C.vars d cl l R aO W H (W.aa l) k)(λi _=>n-(intOf i).toNat)
   case atStart=>exact⟨0,R,W,Y,lv,bv,rfl,zx _,(bz.ext bA).again,Fz.start dW dX dY⟩
   case round=>
    obtain⟨k,aO,H,J,ae,af,rfl,br,a8,dC⟩:=hrel
    have aD:=zk a8
    have am:=zk dC
    clear a8 dC
    by_cases ej:k<n
    . have dD:AB wr A n (W.aa l):=(cv.stay aD.st (λb e hb=>by have aA:=bR.lt hb;have aq:=(cv.J b e).1;have aP:=ef.out.size;omega)).bZ (by have:=bz.ab.bN l;omega) ed
      obtain⟨eF,x,rfl,bW,eG,cI,cH⟩:=dD.at_ ej
      obtain⟨ag,other,left,a7,bX,dE,dF,dG,dH,cx⟩:=am.at_ bW
      have ek:w.heap.size+2<=wc.heap.size:=by
       have aA:=bA.out.size
       have aq:=dy.out.lt
       omega
      have dI:wr.cell? ⟨w.heap.size,0,none⟩=some (.pointer (some ⟨C.q,0,none⟩)):=aD.st.cell (bA.cell (ee.cell 0)) (λhb=>by have:=bR.lt hb;dsimp only at this;omega)
      have dJ:wr.cell? ⟨w.heap.size+1,0,none⟩=some (.int .i64 l):=aD.st.cell (bA.cell (dy.cell 0)) (λhb=>by have:=bR.lt hb;dsimp only at this;omega)
      have bY:Ae wr (wr.alloc (.cells #[.int .i64 x] 3)):=by grind
      have dK:=Aq.new wr 3 #[.int .i64 x]
      have aR:∀b,Gj C J H ae af b->Gj C Y W lv bv b\/wc.heap.size<=b:=λb hb=>hb.elim (aD.cw b) (aD.cv b)
      have dL:FX C.q w.heap.size (w.heap.size+1) wr.heap.size l x (wr.alloc (.cells #[.int .i64 x] 3)) (Gj C J H ae af):=by
       refine⟨bY.cell dI,bY.cell dJ,dK.cell 0,λhb=>?_,λhb=>?_,λhb=>?_⟩
       . rcases aR _ hb with g|g
         . have:=bR.lt g;omega
         . omega
       . rcases aR _ hb with g|g
         . have:=bR.lt g;omega
         . omega
       . have:=aD.lt hb;omega
      have cy:=zk (aD.ext bY)
      have eH:=zk bY
      have cJ:=zk dL
      have bk:=zk a7
      have ah:=zk bX
      have dM:=zk dF
      have cz:=zk dG
      have eI:=zk cx
      have bT:=zk (aD.ab.cls x ag bX)
      have eJ:(k:Int)<(n:Int):=Ad
      have eK:(0:Int)<=(k:Int):=Ad
      have aK:=zk dE
      have dN:=zk ((AU ((am.s.ok x ag a7).2.2 l dH)).2.2.1)
      have dO:=zk ((AU ((am.s.ok x ag a7).2.2 other cx)).2.2.1)
      have dP:=zk ((aD.ab.cls x ag bX).2.2 other cx)
      have eL:=(aD.ab.cls x ag bX).2.1
      clear dD dI dJ bY dK aR dL a7 bX dF dG dH cx dE ek
      go_wp2
      generalize dQ:wr.alloc (.cells #[x] 3)=cA at *
      have eM:=zk dQ
      generalize eN:wr=g8 at *
      have aB:=λW'(E:Ae cA W')=>E.cell cJ.c2
      have ba:=λW'(E:Ae cA W')=>E.cell cJ.aK
      have ab:=λW'(E:Ae cA W')=>E.cell (cy.ab.J.cell 2)
      rw[cy.out.av]at ab
      have bB:=λW'(E:Ae cA W')=>(cy.ab.ext E).b1 ah
      clear dQ
      refine AL AJ ?_
      (repeat first|apply Bg rfl (λW E=>Am) Am|apply AS rfl Am)
      refine AN λel E=>?_
      have cK:=zk (cy.ext E)
      have dR:=zk (cJ.ext E)
      have em:=zk E
      clear E aB ba ab bB
      cases left
      focus
       have bt:=(cK.ab.pair x ag ah).1
       have cL:JI H x=(other,l):=by unfold JI;rw[aK.out];rfl
      rotate_left
      focus
       have bt:=(cK.ab.pair x ag ah).1
       have cL:JI H x=(l,other):=by unfold JI;rw[aK.out];rfl
      all_goals
       rw[cL]at bt
       have bZ:=zk bt
       have a6:=λW'(E:Ae el W')=>E.cell dR.aZ
       clear cL bt
       go_wp2
       refine AL AJ ?_
       (repeat first|apply Bg rfl (λW E=>Am) Am|apply AS rfl Am)
      focus(apply Bu (λW E=>(Te l l other (J.ak x) true W rfl cz (E.cell (bZ.cell 1)) (E.cell (bZ.cell 2))).mono λe w' h=>⟨h.1,by rw[h.2];exact Ae.refl _⟩) rfl (λW E=>by go_simp) Am)
      rotate_left
      focus(apply Bu (λW E=>(Te l l other (J.ak x) false W rfl cz (E.cell (bZ.cell 1)) (E.cell (bZ.cell 2))).mono λe w' h=>⟨h.1,by rw[h.2];exact Ae.refl _⟩) rfl (λW E=>by go_simp) Am)
      all_goals
       (repeat first|apply Bg rfl (λW E=>Am) Am|apply AS rfl Am)
       refine AN λdS E=>?_
       have bu:=zk (cK.ext E)
       have bU:=zk (dR.ext E)
       have b0:=zk (bZ.ext E)
       have eO:=zk (em.trans E)
       obtain⟨eP,aS,eQ,dT,cM,_⟩:=(bu.ab.pair x ag ah).2.aQ Ad (λy bx=>by have:=(bu.ab.cls x ag ah).2.2 y bx;omega)
       have eo:=b0.cell 0
       have aQ:=b0.cell 1
       have aF:=b0.cell 2
       rw[dT]at eo
       have dU:=zk cM
       have a7:=cM.1
       have eR:=zk a7
       have eS:(aS:Int)<=1000:=Ad
       clear E a6 dT cM a7
       go_wp2
      . go_loopw[52](λi cN=>∃j:Nat,i=j/\j<=aS/\Ae dS cN)(λi _=>aS-(intOf i).toNat)
        case atStart=>exact⟨0,rfl,zx _,Ae.refl _⟩
        case round=>
         obtain⟨j,rfl,T,b1⟩:=hrel
         have aL:=zk b1
         clear b1
         by_cases cO:j<aS
         . obtain⟨ep,y,rfl,bx,eq,er,es⟩:=(dU.ext aL).at_ cO
           have bC:y∈ag:=zm bx
           have bD:=(bu.ab.cls x ag ah).2.2 y bC
           have aT:=bu.ext aL
           have bc:=bU.ext aL
           have bE:=aT.ab.J.cell 1
           rw[aT.av]at bE
           have b2:=Qi wr C.base C.al C.au ae af C.vars aO C.aF C.q w (w+1) y l other aT.ah bE bc.c2 bc.aZ bD
           have cP:=zk b2
           have cQ:=zk aT
           have cR:=zk bc
           have cS:=zk bC
           have b3:=zk bD
           have et:(j:Int)<(aS:Int):=Ad
           have eu:(0:Int)<=(j:Int):=Ad
           clear bC bD aT bc bE b2
           go_wp2_with fail
           refine cP.mono ?_
           rintro e wf⟨rfl,bd⟩
           have aH:=zk (cQ.ext bd)
           have aU:=zk (cR.ext bd)
           have b4:=zk (aL.trans bd)
           by_cases aV:y≠l/\y≠other/\0<=CJ aO y
           . have aW:=zt aV
             have aI:=zk aV
             have be:=b0.ext b4
             have f1:=be.frozen 2
             have cT:=be.cell 2
             have cU:=zk be
             rw[aW]
             clear aV aW be bd
             have O:=zk (aH.aW (aH.ab.cY (x:=x) ah (o:=some (other,y)) ((Au.refl (λk=>k=J.ak x) wf).setCell (p:=⟨J.ak x,2,none⟩) (.inl rfl) y) (cU.ad 2 y)) (((Au.refl (λk=>k=J.ak x) wf).setCell (p:=⟨J.ak x,2,none⟩) (.inl rfl) y).mono (λj _ T=>.inr (.inr (.inr (.inr (.inr (.inl ⟨x,ag,ah,.inl T⟩))))))) (λb hb=>.inl (DH rfl b hb)) rfl)
             have an:=zk (aU.bn (foot':=Gj C J {H with two:=AE H.two x (some (other,y))} ae af) ((Au.refl (λk=>k=J.ak x) wf).setCell (p:=⟨J.ak x,2,none⟩) (.inl rfl) y) (λb hb=>.inl (.inr (.inr (.inr (.inr (.inr (.inl ⟨x,ag,ah,.inl hb⟩))))))) (λb hb=>.inl (hb.imp (DH rfl b) id)))
             go_wp2
             generalize cV:wf.setCell ⟨J.ak x,2,none⟩ y=U at *
             obtain⟨Z,aj,ac,aC⟩:=(O.ab.aH l).form
             have a5:Ay U C.base (.slice Z aj ac) (H.aa l):=by have:=O.ab.aH l;rw[aC]at this;exact this
             have b5:=zk a5
             have aX:∀g,(Value.slice Z aj ac).ownBlock=some g->Gj C J {H with two:=AE H.two x (some (other,y))} ae af g:=λg e=>.inl (.inr (.inr (.inr (.inr (.inr (.inr ⟨l,by rw[aC];exact e⟩))))))
             have b6:∀g,(Value.slice Z aj ac).ownBlock=some g->g≠J.q:=λg e ad=>by subst ad;exact b5.ai O.ab.J Ax e
             have ev:=zk aX
             have aB:=λW'(E:Cm U (FD U (.slice Z aj ac) C.base (AX (H.aa l) x)) W')=>(DV E).cell an.c2 (λe=>an.c4 (aX _ e))
             have a6:=λW'(E:Cm U (FD U (.slice Z aj ac) C.base (AX (H.aa l) x)) W')=>(DV E).cell an.aZ (λe=>an.dG (aX _ e))
             have ab:=λW'(E:Cm U (FD U (.slice Z aj ac) C.base (AX (H.aa l) x)) W')=>(DV E).cell (O.ab.J.cell 3) (λe=>b6 _ e rfl)
             rw[O.out.av]at ab
             have lb:=λW'(E:Cm U (FD U (.slice Z aj ac) C.base (AX (H.aa l) x)) W')=>O.ab.cq (l:=l) bw (by rw[aC];exact DV E)
             rw[aC]at lb
             have bF:=zk aC
             have cW:=zk (λg(e:(Value.slice Z aj ac).ownBlock=some g)(ad:g=g8)=>an.n8 (ad▸aX g e))
             clear a5 b6 aC aX f1 cT cV
             refine Fr (FD U (.slice Z aj ac) C.base (AX (H.aa l) x)) (n:=12) (dk:=78) AJ rfl rfl rfl rfl ?_
             simp only[List.take_succ_cons,List.take_zero]
             (repeat apply Ky rfl rfl rfl (λW E=>Am) Am)
             refine AN ⟨λW' E=>?_,λv bG bH aG E=>?_⟩
             . have bI:=Hj C.base Z aj ac (H.aa l) (λz=>decide (z=x)) 298 #[.pointer g8] W' (λV=>V.cell? g8=some x/\Au (λb=>(Value.slice Z aj ac).ownBlock=some b) U V) ⟨E.cell an.aK,E.stay⟩ (b5.ext E)
                (λg e V j u aM=>⟨((Au.refl (λk=>k=g) V).setCell (p:=⟨g,j,none⟩) (.inl rfl) u).cell aM.1 (λad=>cW g (by rw[e];rfl) ad.symm),aM.2.setCell (p:=⟨g,j,none⟩) (.inl (by rw[e];rfl)) u⟩)
                (λz ak=>by
                 obtain⟨d,cX⟩:=O.ab.a6 l z ak
                 have:=(O.ab.cls z d cX).1;omega) (by have aA:(H.aa l).length<=1000000000:=O.ab.bN l;omega) Lg (λz _ V aM=>(Qg V z x _ aM.1).mono λe w'⟨aA,aq⟩=>⟨aA,⟨aq.cell aM.1,aM.2.aR aq⟩,aq⟩)
               have b7:(H.aa l).filter (λz=>!decide (z=x))=AX (H.aa l) x:=by unfold AX;congr 1;funext z;by_cases e:z=x<;>simp[e]
               rw[b7]at bI
               have cY:=zk bI
               clear bI b7 aB a6 ab lb E
               go_wp2_with fail
               refine cY.mono ?_
               rintro e bG⟨m,rfl,bn,_,b8⟩
               have aG:FD U (.slice Z aj ac) C.base (AX (H.aa l) x) (.slice Z m ac) bG:=⟨bn,by cases Z<;>rfl,b8⟩
               have bJ:=zk aG
               clear aG bn b8
               go_wp2
               exact Cp (.slice Z m ac) rfl bJ
             . obtain⟨aQ,aF,aY⟩:=aG
               obtain⟨aa,av,aE,ao⟩:=O.ab.cy (l:=l) bw (by rw[bF.out];exact aY) aQ (λk e=>.inl (by rw[bF.out,<-aF];exact e)) E (λz ak=>O.ab.a6 l z (Ee.1 ak).1) ((O.ab.once l).sublist xw)
               have bK:∀b,EW {J with bv:=AE J.bv l v} {H with two:=AE H.two x (some (other,y)),aa:=AE H.aa l (AX (H.aa l) x)} b->EW J {H with two:=AE H.two x (some (other,y))} b\/U<=b:=GV rfl (λm k e=>by
                by_cases ad:m=l
                . rw[ad,AO]at e
                  rw[ad]
                  exact .inl ((aby Value.ownBlock bF).trans (aF.symm.trans e))
                . rw[AK _ _ ad]at e;exact .inl e)
               have bL:∀j,(J.bv l).ownBlock=some j\/j=J.ao->EW J {H with two:=AE H.two x (some (other,y))} j:=λj T=>by
                rcases T with T|T
                . exact .inr (.inr (.inr (.inr (.inr (.inr ⟨l,T⟩)))))
                . exact .inr (.inr (.inl T))
               have al:=zk (O.aW aE (ao.mono (λj _ T=>bL j T)) bK rfl)
               have aJ:=zk (an.bn (foot':=Gj C {J with bv:=AE J.bv l v} {H with two:=AE H.two x (some (other,y)),aa:=AE H.aa l (AX (H.aa l) x)} ae af) ao (λb hb=>.inl (bL b hb)) (λb hb=>hb.elim (λh=>(bK b h).imp .inl id) (λh=>.inl (.inr h))))
               refine Dl bH aa rfl (.tmp 69) (.tmp 70) (.tmp 78) rfl J.ao l v rfl rfl rfl av ?_
               clear av aE ao aQ aF aY E aB a6 ab lb bK bL
               go_wp2
               obtain⟨aw,ax,ay,aN⟩:=(al.ab.aH y).form
               have b9:Ay aa C.base (.slice aw ax ay) (H.aa y):=by
                have bf:=al.ab.aH y
                rw[aN]at bf
                dsimp only at bf
                rw[AK _ _ aI.1]at bf
                exact bf
               have cc:=zk b9
               have cZ:∀m,AE H.aa l (AX (H.aa l) x) y=m->m=H.aa y:=λm e=>by rw[<-e,AK _ _ aI.1]
               have bM:∀g,(Value.slice aw ax ay).ownBlock=some g->Gj C {J with bv:=AE J.bv l v} {H with two:=AE H.two x (some (other,y)),aa:=AE H.aa l (AX (H.aa l) x)} ae af g:=λg e=>.inl (.inr (.inr (.inr (.inr (.inr (.inr ⟨y,by rw[aN];exact e⟩))))))
               have ce:∀g,(Value.slice aw ax ay).ownBlock=some g->g≠J.q:=λg e ad=>by subst ad;exact cc.ai al.ab.J Ax e
               have aB:=λW'(E:Cm aa (GY aa (.slice aw ax ay) C.base (H.aa y++[x])) W')=>(Dr E).cell aJ.c2 (λe=>aJ.c4 (bM _ e))
               have ba:=λW'(E:Cm aa (GY aa (.slice aw ax ay) C.base (H.aa y++[x])) W')=>(Dr E).cell aJ.aK (λe=>aJ.n8 (bM _ e))
               have ab:=λW'(E:Cm aa (GY aa (.slice aw ax ay) C.base (H.aa y++[x])) W')=>(Dr E).cell (al.ab.J.cell 3) (λe=>ce _ e rfl)
               dsimp only at ab
               rw[O.out.av]at ab
               have lb:=λW'(E:Cm aa (GY aa (.slice aw ax ay) C.base (H.aa y++[x])) W')=>al.ab.cq (l:=y) b3 (by rw[aN];exact Dr E)
               rw[aN]at lb
               dsimp only at lb
               have bN:=zk aN
               clear b9 ce aN bM cZ
               refine GC (LX x) (GY aa (.slice aw ax ay) C.base (H.aa y++[x])) (n:=12) (db:=91) (dk:=92) AJ rfl rfl rfl rfl rfl rfl (λv W' ew aA aq=>aA.ext aq) ?_
               simp only[List.take_succ_cons,List.take_zero]
               (repeat apply Ky rfl rfl rfl (λW E=>Am) Am)
               refine AN ⟨⟨by rfl,λW' E=>⟨_,_,by go_simp,by grind,LX.new W' x⟩⟩,λc0 W' E c9=>?_,λc0 u bG W' aG E=>?_⟩
               . obtain⟨da,dc,rfl,dd⟩:=c9
                 have ey:(H.aa y).length<=1000000000:=aD.ab.bN y
                 refine BW W' rfl (.tmp 89) (.tmp 91) rfl C.base (.slice aw ax ay) (H.aa y) rfl (cc.ext E) da dc x rfl dd (by have:=bT.1;omega) Ad (by have:=al.ab.ge.1;have:=al.out.ab.J.lt;have:=E.size;dsimp only at *;omega) ?_
                 intro de w' aA aq aP
                 refine Cp de rfl ⟨aA,λk br=>?_,(E.stay.grown aq (λk e=>.inl e))⟩
                 rcases aP with aP|aP
                 . exact .inl (by rw[<-aP];exact br)
                 . rw[aP]at br;cases br;exact .inr E.size
               . obtain⟨aQ,aF,aY⟩:=aG
                 have cf:x∉H.aa y:=λa8=>by
                  obtain⟨p,q,cg,g2⟩:=am.s.aG.only x y a8
                  rw[aK.out]at cg
                  cases cg
                  rcases g2 with g2|g2
                  . exact aI.2.1 g2
                  . exact aI.1 g2
                 have ch:∀z∈H.aa y++[x],∃c,H.af z=some c:=λz ak=>by
                  rcases zz.1 ak with ak|ak
                  . exact aD.ab.a6 y z ak
                  . exact⟨ag,by rw[zy.1 ak];exact ah⟩
                 have ci:(H.aa y++[x]).Nodup:=by
                  rw[y2]
                  exact⟨aD.ab.once y,AG,λp bt q cj=>by simp at cj;subst cj;rintro rfl;exact cf bt⟩
                 obtain⟨df,av,aE,ao⟩:=al.ab.cy (l:=y) b3 (by rw[bN.out];exact aY) aQ (λk e=>(aF k e).imp (λe=>by rw[bN.out];exact e) id) E ch ci
                 have bJ:=zk (al.aW aE (ao.mono (λj _ T=>by
                  rcases T with T|T
                  . exact .inr (.inr (.inr (.inr (.inr (.inr ⟨y,T⟩)))))
                  . exact .inr (.inr (.inl T)))) (GV rfl (λm k e=>by
                  by_cases ad:m=y
                  subst ad;rw[AO]at e
                  refine(aF k e).imp (λe=>?_) id
                  rw[bN.out];exact e
                  rw[AK _ _ ad]at e;exact .inl e)) rfl)
                 have cm:=am.cg (left:=false) bW ah (aK.trans AG) cS aI.1 aI.2.1 (λa8=>by have:=(EH am.s.ah.aE).2 a8;have:=aI.2.2;omega)
                 have bO:=zk cm
                 refine Dl W' df rfl (.tmp 82) (.tmp 83) (.tmp 92) rfl J.ao y u rfl rfl rfl av ?_
                 clear av aE ao aQ aF aY E aB ba ab lb ch ci cf cm
                 go_wp2
                 go_roundw
                 case rel=>exact⟨k+1,aO,_,_,ae,af,by go_num,Ad,bJ,bO⟩
                 case measure=>simp[intOf];omega
           have aW:=zn aV
           rw[aW]
           clear aV aW
           go_wp2
           go_roundw
           case rel=>exact⟨j+1,by go_num,Ad,b4⟩
           case measure=>simp[intOf];omega
         . obtain rfl:j=aS:=Ad
           have aH:=zk (bu.ext aL)
           have aU:=zk (bU.ext aL)
           have d2:=aU.out.c2
           have d8:=aU.out.aK
           have aR:=MG wr C.base C.ap C.al J H zg x other l ag aH.ab ah aK ⟨dP,dO⟩ ⟨bw,dN⟩
           rw[aH.out.av]at aR
           have dg:=zk aR
           clear aR
           go_wp2_with fail
           refine dg.mono ?_
           rintro e U⟨rfl,bh,cn,bP,bQ⟩
           have O:=zk (aH.aW cn bP (GV rfl (λm k e=>.inl (by rw[<-bQ m];exact e))) rfl)
           have an:=zk (aU.bn (foot':=Gj C {J with bv:=bh} {H with two:=AE H.two x none,aa:=FA H x other l 2} ae af) bP (λb hb=>.inl hb) (λb hb=>hb.elim (λh=>(GV rfl (λm k e=>.inl (by rw[<-bQ m];exact e)) b h).imp .inl id) (λh=>.inl (.inr h))))
           have aB:=λW'(E:Ae U W')=>E.cell an.c2
           have ba:=λW'(E:Ae U W')=>E.cell an.aK
           have ab:=λW'(E:Ae U W')=>E.cell (O.ab.J.cell 4)
           dsimp only at ab
           rw[aH.out.av]at ab
           have bB:=λW'(E:Ae U W')=>(O.ab.ext E).dD (x:=x) bT.1 dM
           dsimp only at bB
           clear cn bP bQ d2 d8
           go_wp2
           refine CO (n:=7) AJ rfl rfl ?_
           simp only[List.take_succ_cons,List.take_zero]
           (repeat first|apply Bg rfl (λW E=>Am) Am|apply AS rfl Am)
           refine AN λbH E=>?_
           obtain⟨aa,av,aE,ao⟩:=(O.ab.ext E).dt (x:=x) ah (λz ak=>by
            cases bV:H.af z with
            |none=>have:=(am.s.aG.out z bV).2;dsimp only at ak;rw[ak]at this;cases this
            |some c=>exact⟨c,rfl⟩)
           have aZ:=(O.ext E).aW aE (ao.mono (λj _ T=>.inr (.inr (.inr (.inl T))))) (λb hb=>.inl (DH rfl b hb)) rfl
           have bi:=(an.ext E).bn (foot':=Gj C {J with bv:=bh} (H.aO x other l) ae af) ao (λb hb=>.inl (.inr (.inr (.inr (.inl hb))))) (λb hb=>.inl (hb.imp (DH rfl b) id))
           dsimp only at aZ av
           rw[show({af:=H.af,two:=AE H.two x none,aa:=FA H x other l 2,late:=AE H.late x true,head:=H.head}:By)=H.aO x other l from Kb (yb cz)]at aZ
           have al:=zk aZ
           have aJ:=zk bi
           refine Dl bH aa rfl (.tmp 100) (.tmp 101) (.tmp 103) rfl J.a1 x AF rfl rfl rfl av ?_
           have co:=QV aa aa (Gj C {J with bv:=bh} (H.aO x other l) ae af) C ae af {J with bv:=bh} (H.aO x other l) zg aO d x cl ag aZ.again (am.s.aO ah aK) (GL dt am.g) bk (AO _ _ _)
           have dh:=zk co
           have d2:=bi.c2
           have d8:=bi.aK
           clear E av aE ao aZ bi co aB ba ab bB
           go_wp2_with fail
           refine dh.mono ?_
           rintro e ez⟨b,cp,di,cq,cr,cs,rfl,bj,dj⟩
           have ct:=zk bj
           have eA:=bj.st.cell aJ.aK (λhb=>aJ.n8 hb)
           rcases dj with⟨rfl,rfl,rfl,a9⟩|⟨rfl,cu⟩
           . have dl:=zk a9
             clear bj a9
             go_wp2
             try rw[x8]
             go_ret
             exact⟨x,cp,_,cq,cr,cs,rfl,(bz.ext bA).trans (al.trans ct),am.s.aO ah aK,am.g,.inr ⟨bT.1.1,ag,bk,dl⟩⟩
           have bO:=zk (am.aO bW bk aK (.inr rfl) cu)
           clear bj cu
           go_wp2
           go_roundw
           case rel=>exact⟨k+1,cp,di,cq,cr,cs,by go_num,Ad,al.trans ct,bO⟩
           case measure=>simp[intOf];omega
      . go_loopw[52](λi cN=>∃j:Nat,i=j/\j<=aS/\Ae dS cN)(λi _=>aS-(intOf i).toNat)
        case atStart=>exact⟨0,rfl,zx _,Ae.refl _⟩
        case round=>
         obtain⟨j,rfl,T,b1⟩:=hrel
         have aL:=zk b1
         clear b1
         by_cases cO:j<aS
         . obtain⟨ep,y,rfl,bx,eq,er,es⟩:=(dU.ext aL).at_ cO
           have bC:y∈ag:=zm bx
           have bD:=(bu.ab.cls x ag ah).2.2 y bC
           have aT:=bu.ext aL
           have bc:=bU.ext aL
           have bE:=aT.ab.J.cell 1
           rw[aT.av]at bE
           have b2:=Qi wr C.base C.al C.au ae af C.vars aO C.aF C.q w (w+1) y l other aT.ah bE bc.c2 bc.aZ bD
           have cP:=zk b2
           have cQ:=zk aT
           have cR:=zk bc
           have cS:=zk bC
           have b3:=zk bD
           have et:(j:Int)<(aS:Int):=Ad
           have eu:(0:Int)<=(j:Int):=Ad
           clear bC bD aT bc bE b2
           go_wp2_with fail
           refine cP.mono ?_
           rintro e wf⟨rfl,bd⟩
           have aH:=zk (cQ.ext bd)
           have aU:=zk (cR.ext bd)
           have b4:=zk (aL.trans bd)
           by_cases aV:y≠l/\y≠other/\0<=CJ aO y
           . have aW:=zt aV
             have aI:=zk aV
             have be:=b0.ext b4
             have f1:=be.frozen 1
             have cT:=be.cell 1
             have cU:=zk be
             rw[aW]
             clear aV aW be bd
             have O:=zk (aH.aW (aH.ab.cY (x:=x) ah (o:=some (y,other)) ((Au.refl (λk=>k=J.ak x) wf).setCell (p:=⟨J.ak x,1,none⟩) (.inl rfl) y) (cU.ad 1 y)) (((Au.refl (λk=>k=J.ak x) wf).setCell (p:=⟨J.ak x,1,none⟩) (.inl rfl) y).mono (λj _ T=>.inr (.inr (.inr (.inr (.inr (.inl ⟨x,ag,ah,.inl T⟩))))))) (λb hb=>.inl (DH rfl b hb)) rfl)
             have an:=zk (aU.bn (foot':=Gj C J {H with two:=AE H.two x (some (y,other))} ae af) ((Au.refl (λk=>k=J.ak x) wf).setCell (p:=⟨J.ak x,1,none⟩) (.inl rfl) y) (λb hb=>.inl (.inr (.inr (.inr (.inr (.inr (.inl ⟨x,ag,ah,.inl hb⟩))))))) (λb hb=>.inl (hb.imp (DH rfl b) id)))
             go_wp2
             generalize cV:wf.setCell ⟨J.ak x,1,none⟩ y=U at *
             obtain⟨Z,aj,ac,aC⟩:=(O.ab.aH l).form
             have a5:Ay U C.base (.slice Z aj ac) (H.aa l):=by have:=O.ab.aH l;rw[aC]at this;exact this
             have b5:=zk a5
             have aX:∀g,(Value.slice Z aj ac).ownBlock=some g->Gj C J {H with two:=AE H.two x (some (y,other))} ae af g:=λg e=>.inl (.inr (.inr (.inr (.inr (.inr (.inr ⟨l,by rw[aC];exact e⟩))))))
             have b6:∀g,(Value.slice Z aj ac).ownBlock=some g->g≠J.q:=λg e ad=>by subst ad;exact b5.ai O.ab.J Ax e
             have ev:=zk aX
             have aB:=λW'(E:Cm U (FD U (.slice Z aj ac) C.base (AX (H.aa l) x)) W')=>(DV E).cell an.c2 (λe=>an.c4 (aX _ e))
             have a6:=λW'(E:Cm U (FD U (.slice Z aj ac) C.base (AX (H.aa l) x)) W')=>(DV E).cell an.aZ (λe=>an.dG (aX _ e))
             have ab:=λW'(E:Cm U (FD U (.slice Z aj ac) C.base (AX (H.aa l) x)) W')=>(DV E).cell (O.ab.J.cell 3) (λe=>b6 _ e rfl)
             rw[O.out.av]at ab
             have lb:=λW'(E:Cm U (FD U (.slice Z aj ac) C.base (AX (H.aa l) x)) W')=>O.ab.cq (l:=l) bw (by rw[aC];exact DV E)
             rw[aC]at lb
             have bF:=zk aC
             have cW:=zk (λg(e:(Value.slice Z aj ac).ownBlock=some g)(ad:g=g8)=>an.n8 (ad▸aX g e))
             clear a5 b6 aC aX f1 cT cV
             refine Fr (FD U (.slice Z aj ac) C.base (AX (H.aa l) x)) (n:=12) (dk:=78) AJ rfl rfl rfl rfl ?_
             simp only[List.take_succ_cons,List.take_zero]
             (repeat apply Ky rfl rfl rfl (λW E=>Am) Am)
             refine AN ⟨λW' E=>?_,λv bG bH aG E=>?_⟩
             . have bI:=Hj C.base Z aj ac (H.aa l) (λz=>decide (z=x)) 298 #[.pointer g8] W' (λV=>V.cell? g8=some x/\Au (λb=>(Value.slice Z aj ac).ownBlock=some b) U V) ⟨E.cell an.aK,E.stay⟩ (b5.ext E)
                (λg e V j u aM=>⟨((Au.refl (λk=>k=g) V).setCell (p:=⟨g,j,none⟩) (.inl rfl) u).cell aM.1 (λad=>cW g (by rw[e];rfl) ad.symm),aM.2.setCell (p:=⟨g,j,none⟩) (.inl (by rw[e];rfl)) u⟩)
                (λz ak=>by
                 obtain⟨d,cX⟩:=O.ab.a6 l z ak
                 have:=(O.ab.cls z d cX).1;omega) (by have aA:(H.aa l).length<=1000000000:=O.ab.bN l;omega) Lg (λz _ V aM=>(Qg V z x _ aM.1).mono λe w'⟨aA,aq⟩=>⟨aA,⟨aq.cell aM.1,aM.2.aR aq⟩,aq⟩)
               have b7:(H.aa l).filter (λz=>!decide (z=x))=AX (H.aa l) x:=by unfold AX;congr 1;funext z;by_cases e:z=x<;>simp[e]
               rw[b7]at bI
               have cY:=zk bI
               clear bI b7 aB a6 ab lb E
               go_wp2_with fail
               refine cY.mono ?_
               rintro e bG⟨m,rfl,bn,_,b8⟩
               have aG:FD U (.slice Z aj ac) C.base (AX (H.aa l) x) (.slice Z m ac) bG:=⟨bn,by cases Z<;>rfl,b8⟩
               have bJ:=zk aG
               clear aG bn b8
               go_wp2
               exact Cp (.slice Z m ac) rfl bJ
             . obtain⟨aQ,aF,aY⟩:=aG
               obtain⟨aa,av,aE,ao⟩:=O.ab.cy (l:=l) bw (by rw[bF.out];exact aY) aQ (λk e=>.inl (by rw[bF.out,<-aF];exact e)) E (λz ak=>O.ab.a6 l z (Ee.1 ak).1) ((O.ab.once l).sublist xw)
               have bK:∀b,EW {J with bv:=AE J.bv l v} {H with two:=AE H.two x (some (y,other)),aa:=AE H.aa l (AX (H.aa l) x)} b->EW J {H with two:=AE H.two x (some (y,other))} b\/U<=b:=GV rfl (λm k e=>by
                by_cases ad:m=l
                . rw[ad,AO]at e
                  rw[ad]
                  exact .inl ((aby Value.ownBlock bF).trans (aF.symm.trans e))
                . rw[AK _ _ ad]at e;exact .inl e)
               have bL:∀j,(J.bv l).ownBlock=some j\/j=J.ao->EW J {H with two:=AE H.two x (some (y,other))} j:=λj T=>by
                rcases T with T|T
                . exact .inr (.inr (.inr (.inr (.inr (.inr ⟨l,T⟩)))))
                . exact .inr (.inr (.inl T))
               have al:=zk (O.aW aE (ao.mono (λj _ T=>bL j T)) bK rfl)
               have aJ:=zk (an.bn (foot':=Gj C {J with bv:=AE J.bv l v} {H with two:=AE H.two x (some (y,other)),aa:=AE H.aa l (AX (H.aa l) x)} ae af) ao (λb hb=>.inl (bL b hb)) (λb hb=>hb.elim (λh=>(bK b h).imp .inl id) (λh=>.inl (.inr h))))
               refine Dl bH aa rfl (.tmp 69) (.tmp 70) (.tmp 78) rfl J.ao l v rfl rfl rfl av ?_
               clear av aE ao aQ aF aY E aB a6 ab lb bK bL
               go_wp2
               obtain⟨aw,ax,ay,aN⟩:=(al.ab.aH y).form
               have b9:Ay aa C.base (.slice aw ax ay) (H.aa y):=by
                have bf:=al.ab.aH y
                rw[aN]at bf
                dsimp only at bf
                rw[AK _ _ aI.1]at bf
                exact bf
               have cc:=zk b9
               have cZ:∀m,AE H.aa l (AX (H.aa l) x) y=m->m=H.aa y:=λm e=>by rw[<-e,AK _ _ aI.1]
               have bM:∀g,(Value.slice aw ax ay).ownBlock=some g->Gj C {J with bv:=AE J.bv l v} {H with two:=AE H.two x (some (y,other)),aa:=AE H.aa l (AX (H.aa l) x)} ae af g:=λg e=>.inl (.inr (.inr (.inr (.inr (.inr (.inr ⟨y,by rw[aN];exact e⟩))))))
               have ce:∀g,(Value.slice aw ax ay).ownBlock=some g->g≠J.q:=λg e ad=>by subst ad;exact cc.ai al.ab.J Ax e
               have aB:=λW'(E:Cm aa (GY aa (.slice aw ax ay) C.base (H.aa y++[x])) W')=>(Dr E).cell aJ.c2 (λe=>aJ.c4 (bM _ e))
               have ba:=λW'(E:Cm aa (GY aa (.slice aw ax ay) C.base (H.aa y++[x])) W')=>(Dr E).cell aJ.aK (λe=>aJ.n8 (bM _ e))
               have ab:=λW'(E:Cm aa (GY aa (.slice aw ax ay) C.base (H.aa y++[x])) W')=>(Dr E).cell (al.ab.J.cell 3) (λe=>ce _ e rfl)
               dsimp only at ab
               rw[O.out.av]at ab
               have lb:=λW'(E:Cm aa (GY aa (.slice aw ax ay) C.base (H.aa y++[x])) W')=>al.ab.cq (l:=y) b3 (by rw[aN];exact Dr E)
               rw[aN]at lb
               dsimp only at lb
               have bN:=zk aN
               clear b9 ce aN bM cZ
               refine GC (LX x) (GY aa (.slice aw ax ay) C.base (H.aa y++[x])) (n:=12) (db:=91) (dk:=92) AJ rfl rfl rfl rfl rfl rfl (λv W' ew aA aq=>aA.ext aq) ?_
               simp only[List.take_succ_cons,List.take_zero]
               (repeat apply Ky rfl rfl rfl (λW E=>Am) Am)
               refine AN ⟨⟨by rfl,λW' E=>⟨_,_,by go_simp,by grind,LX.new W' x⟩⟩,λc0 W' E c9=>?_,λc0 u bG W' aG E=>?_⟩
               obtain⟨da,dc,rfl,dd⟩:=c9
               have ey:(H.aa y).length<=1000000000:=aD.ab.bN y
               refine BW W' rfl (.tmp 89) (.tmp 91) rfl C.base (.slice aw ax ay) (H.aa y) rfl (cc.ext E) da dc x rfl dd (by have:=bT.1;omega) Ad (by have:=al.ab.ge.1;have:=al.out.ab.J.lt;have:=E.size;dsimp only at *;omega) ?_
               intro de w' aA aq aP
               refine Cp de rfl ⟨aA,λk br=>?_,(E.stay.grown aq (λk e=>.inl e))⟩
               rcases aP with aP|aP
               exact .inl (by rw[<-aP];exact br)
               rw[aP]at br;cases br;exact .inr E.size
               obtain⟨aQ,aF,aY⟩:=aG
               have cf:x∉H.aa y:=λa8=>by
                obtain⟨p,q,cg,g2⟩:=am.s.aG.only x y a8
                rw[aK.out]at cg
                cases cg
                rcases g2 with g2|g2
                exact aI.1 g2
                exact aI.2.1 g2
               have ch:∀z∈H.aa y++[x],∃c,H.af z=some c:=λz ak=>by
                rcases zz.1 ak with ak|ak
                exact aD.ab.a6 y z ak
                exact⟨ag,by rw[zy.1 ak];exact ah⟩
               have ci:(H.aa y++[x]).Nodup:=by
                rw[y2]
                exact⟨aD.ab.once y,AG,λp bt q cj=>by simp at cj;subst cj;rintro rfl;exact cf bt⟩
               obtain⟨df,av,aE,ao⟩:=al.ab.cy (l:=y) b3 (by rw[bN.out];exact aY) aQ (λk e=>(aF k e).imp (λe=>by rw[bN.out];exact e) id) E ch ci
               have bJ:=zk (al.aW aE (ao.mono (λj _ T=>by
                rcases T with T|T
                exact .inr (.inr (.inr (.inr (.inr (.inr ⟨y,T⟩)))))
                exact .inr (.inr (.inl T)))) (GV rfl (λm k e=>by
                by_cases ad:m=y
                subst ad;rw[AO]at e
                refine(aF k e).imp (λe=>?_) id
                rw[bN.out];exact e
                rw[AK _ _ ad]at e;exact .inl e)) rfl)
               have cm:=am.cg (left:=true) bW ah (aK.trans AG) cS aI.1 aI.2.1 (λa8=>by have:=(EH am.s.ah.aE).2 a8;have:=aI.2.2;omega)
               have bO:=zk cm
               refine Dl W' df rfl (.tmp 82) (.tmp 83) (.tmp 92) rfl J.ao y u rfl rfl rfl av ?_
               clear av aE ao aQ aF aY E aB ba ab lb ch ci cf cm
               go_wp2
               go_roundw
               case rel=>exact⟨k+1,aO,_,_,ae,af,by go_num,Ad,bJ,bO⟩
               case measure=>simp[intOf];omega
           have aW:=zn aV
           rw[aW]
           clear aV aW
           go_wp2
           go_roundw
           case rel=>exact⟨j+1,by go_num,Ad,b4⟩
           case measure=>simp[intOf];omega
         . obtain rfl:j=aS:=Ad
           have aH:=zk (bu.ext aL)
           have aU:=zk (bU.ext aL)
           have d2:=aU.out.c2
           have d8:=aU.out.aK
           have aR:=MG wr C.base C.ap C.al J H zg x l other ag aH.ab ah aK ⟨bw,dN⟩ ⟨dP,dO⟩
           rw[aH.out.av]at aR
           have dg:=zk aR
           clear aR
           go_wp2_with fail
           refine dg.mono ?_
           rintro e U⟨rfl,bh,cn,bP,bQ⟩
           have O:=zk (aH.aW cn bP (GV rfl (λm k e=>.inl (by rw[<-bQ m];exact e))) rfl)
           have an:=zk (aU.bn (foot':=Gj C {J with bv:=bh} {H with two:=AE H.two x none,aa:=FA H x l other 2} ae af) bP (λb hb=>.inl hb) (λb hb=>hb.elim (λh=>(GV rfl (λm k e=>.inl (by rw[<-bQ m];exact e)) b h).imp .inl id) (λh=>.inl (.inr h))))
           have aB:=λW'(E:Ae U W')=>E.cell an.c2
           have ba:=λW'(E:Ae U W')=>E.cell an.aK
           have ab:=λW'(E:Ae U W')=>E.cell (O.ab.J.cell 4)
           dsimp only at ab
           rw[aH.out.av]at ab
           have bB:=λW'(E:Ae U W')=>(O.ab.ext E).dD (x:=x) bT.1 dM
           dsimp only at bB
           clear cn bP bQ d2 d8
           go_wp2
           refine CO (n:=7) AJ rfl rfl ?_
           simp only[List.take_succ_cons,List.take_zero]
           (repeat first|apply Bg rfl (λW E=>Am) Am|apply AS rfl Am)
           refine AN λbH E=>?_
           obtain⟨aa,av,aE,ao⟩:=(O.ab.ext E).dt (x:=x) ah (λz ak=>by
            cases bV:H.af z with
            |none=>have:=(am.s.aG.out z bV).2;dsimp only at ak;rw[ak]at this;cases this
            |some c=>exact⟨c,rfl⟩)
           have aZ:=(O.ext E).aW aE (ao.mono (λj _ T=>.inr (.inr (.inr (.inl T))))) (λb hb=>.inl (DH rfl b hb)) rfl
           have bi:=(an.ext E).bn (foot':=Gj C {J with bv:=bh} (H.aO x l other) ae af) ao (λb hb=>.inl (.inr (.inr (.inr (.inl hb))))) (λb hb=>.inl (hb.imp (DH rfl b) id))
           dsimp only at aZ av
           rw[show({af:=H.af,two:=AE H.two x none,aa:=FA H x l other 2,late:=AE H.late x true,head:=H.head}:By)=H.aO x l other from Kb cz]at aZ
           have al:=zk aZ
           have aJ:=zk bi
           refine Dl bH aa rfl (.tmp 100) (.tmp 101) (.tmp 103) rfl J.a1 x AF rfl rfl rfl av ?_
           have co:=QV aa aa (Gj C {J with bv:=bh} (H.aO x l other) ae af) C ae af {J with bv:=bh} (H.aO x l other) zg aO d x cl ag aZ.again (am.s.aO ah aK) (GL dt am.g) bk (AO _ _ _)
           have dh:=zk co
           have d2:=bi.c2
           have d8:=bi.aK
           clear E av aE ao aZ bi co aB ba ab bB
           go_wp2_with fail
           refine dh.mono ?_
           rintro e ez⟨b,cp,di,cq,cr,cs,rfl,bj,dj⟩
           have ct:=zk bj
           have eA:=bj.st.cell aJ.aK (λhb=>aJ.n8 hb)
           rcases dj with⟨rfl,rfl,rfl,a9⟩|⟨rfl,cu⟩
           . have dl:=zk a9
             clear bj a9
             go_wp2
             try rw[x8]
             go_ret
             exact⟨x,cp,_,cq,cr,cs,rfl,(bz.ext bA).trans (al.trans ct),am.s.aO ah aK,am.g,.inr ⟨bT.1.1,ag,bk,dl⟩⟩
           have bO:=zk (am.aO bW bk aK (.inl rfl) cu)
           clear bj cu
           go_wp2
           go_roundw
           case rel=>exact⟨k+1,cp,di,cq,cr,cs,by go_num,Ad,al.trans ct,bO⟩
           case measure=>simp[intOf];omega
    obtain rfl:k=n:=Ad
    have dm:=am.out
    rw[show k=(W.aa l).length from dB]at dm
    have bU:=zk dm
    clear dm
    go_wp2
    go_ret
    exact⟨-1,aO,H,J,ae,af,rfl,(bz.ext bA).trans aD,am.s,am.g,.inl ⟨rfl,bU⟩⟩
def Jm(A:AD)(n c:Nat)(u:An)(W:Aj)(E:Nat->Prop):Prop:=Ay W 0 (.slice A n c) u/\(∀b,(Value.slice A n c).ownBlock=some b->¬E b)/\u.length<=100000/\∀y∈u,-100000<=y/\y<=100000
def Jm.bn{A:AD}{n c:Nat}{E:An}{W W':Aj}{u foot' G:Nat->Prop}(h:Jm A n c E W u)(H:Au G W W')(J:∀b,G b->u b)(O:∀b,foot' b->u b\/W<=b):Jm A n c E W' foot':=⟨h.1.stay H (λk e g=>h.2.1 k e (J k g)),λb e g=>by rcases O b g with g|g;exact h.2.1 b e g;have:=(h.1.J b e).2;omega,h.2.2⟩
def Jm.aC{A:AD}{n c:Nat}{u:An}{W:Aj}{E:Nat->Prop}(h:Jm A n c u W E):AB W A n u:=h.1.bZ (by have:=h.2.2.1;omega) (λy H=>by have:=h.2.2.2 y H;omega)
def Xo(q:Nat)(w:Aj):Nat:=match w.cell? ⟨q,5,none⟩with|some (.int _ z)=>z.toNat|_=>0
def Q8{w:World}{q:Nat}{h:Nat}(e:w.cell? ⟨q,5,none⟩=some (.int .i64 (h:Int))):Xo q w=h:=by unfold Xo;rw[e];simp
def Ur(u:Aj)(F:Nat->Prop)(C:GA)(d:Int)(cl:Int->Option An)(R:List AH)(e:Bz)(w':Aj):Prop:=∃r R' W' Y lv E,e=.returned (.int .i64 r)/\EQ u F C R' W' (Az R') w' Y lv E/\EK C.vars d cl R' W'/\Grown d R R'/\((r=-1/\∀x c,cl x=some c->Calm R' c)\/(0<=r/\∃c,cl r=some c/\∀y∈c,-y∈Az R'))
def OX(w:Aj)(q mp:Nat)(h:w.cell? ⟨q,2,none⟩=some (.map (some mp))):AC 215 #[.pointer q] w λe w'=>e=.returned true/\w=w':=by have hb:∀W:Aj,(binOp .neq 244 (.map (some mp)) (.map none)).run prog W=.ok true W:=λ_=>AJ;go_enter func215,ntmps215;go_wp2;go_ret;exact⟨rfl,rfl⟩
def Aha(aY w:Aj)(F:Nat->Prop)(C:GA)(lv a5:Aw)(Y:C7)(W:By)(zg:An)(R:List AH)(d:Int)(cl:Int->Option An)(aA:EQ aY F C R W zg w Y lv a5)(bi:DW ⟨C.vars,R,d⟩)(bO:Bq R cl d)(bP:CK zg W)(bj:∀x,W.af x=cl x) (bk:∀x c,cl x=some c->(0<=x/\x<=Bh)/\c.Nodup/\∀l∈c,AV l C.vars=0)(bn:BS R d C.aF):AC 146 #[.pointer C.q] w (Ur aY F C d cl R):=by
 have aO:=aA.ab.J.cell 1;have a6:=aA.ab.J.cell 2;rw[aA.av]at aO a6;have bQ:=EY w C.base C.al C.au lv a5 C.vars R C.aF aA.ah;have bR:=zk bj;have bS:=zk bk;have br:=show(Az R).length<=100000 by have aa:=D5 bi;have V:=aA.ah.aA;rw[Cd];omega
 have bT:=OX w C.q Y.mp a6;clear bj bk;go_enter func146,ntmps146;go_wp2_with fail
 refine bT.mono ?_;rintro e bt⟨rfl,rfl⟩;go_wp2_with fail
 refine bQ.mono ?_;rintro e bt⟨v,rfl,ae,aP⟩;obtain⟨A,n,c,rfl⟩:=ae.form;have aH:n=(Az R).length:=ae.aL;have bu:=ae.bZ (by have:=br;omega) (JA aA.ah.ok);have a7:=aA.ext aP;have a8:=Acw bt C.base C.ap C.al Y W zg (Az R) A n c a7.ab bu (by have:=br;omega);rw[a7.av]at a8;have bU:=a8;clear ae aP aH bu a8 aO a6;go_wp2_with fail
 refine bU.mono ?_;rintro e w2⟨rfl,k,bw,bV,heq,ak,ad⟩;have bx:=a7.aW ak (ad.mono (λj _ an=>.inl an)) (λb hb=>.inl (DH rfl b hb)) rfl;have bz:EK C.vars d cl R {W with head:=min W.head k}:=⟨bi,bO,bP.er bw heq,bR,bS⟩;have bW:=AgN aY w2 F C lv a5 Y {W with head:=min W.head k} zg R d cl bx bz bn;clear bw bV heq ak ad bx bz;go_wp2_with fail
 refine bW.mono ?_;rintro e bX⟨r,al,aB,aQ,aI,aJ,rfl,aC,a9,bA,bY,bZ⟩;have aO:=aC.ab.J.cell 1;rw[aC.av]at aO;have b0:=EY bX C.base C.al C.au aI aJ C.vars al C.aF aC.ah;have b1:=show(Az al).length<=100000 by have aa:=D5 a9.az;have V:=aC.ah.aA;rw[Cd];omega
 clear bY;go_wp2_with fail
 refine b0.mono ?_;rintro e bB⟨v,rfl,ae,aP⟩;obtain⟨A,n,c,rfl⟩:=ae.form;have b2:=aC.ext aP;have b3:Jm A n c (Az al) bB (Gj C aQ aB aI aJ):=⟨ae.bK (zx _),λb e hb=>by have aa:=(ae.J b e).1;have V:=aC.lt hb;omega,b1,λy af=>by obtain⟨r,b4,e⟩:=zw.1 af;have:=AU (aC.ah.ok r b4);omega⟩;have b5:∃z,z=bB:=⟨_,rfl⟩;clear ae aP aO b5;go_wp2;go_loopw[3,4](λb6 b7 wr=>∃(r:Int)(al:List AH)(aB:By)(aQ:C7)(aI aJ:Aw)(aK:An)(A:AD)(n c:Nat),b6=r/\b7=.slice A n c/\EQ aY F C al aB zg wr aQ aI aJ/\Jm A n c aK wr (Gj C aQ aB aI aJ)/\EK C.vars d cl al aB/\Grown d R al/\((r=-1/\Oc C.vars d cl R al aB aK)\/(0<=r/\∃c,cl r=some c/\∀y∈c,-y∈Az al)))(λ_ _ wr=>100001-Xo C.q wr);case atStart=> refine⟨r,al,aB,aQ,aI,aJ,Az al,A,n,c,rfl,rfl,b2,b3,a9,bA,bZ.imp (λh=>⟨h.1,a9,bA,h.2,⟨[],AG⟩,.inr rfl⟩) id⟩
 case round=>
  obtain⟨r,au,Z,ag,aL,aM,aK,A,n,c,rfl,rfl,E,aR,aj,ba,b8⟩:=hrel;rcases b8 with⟨rfl,aD⟩|⟨ah,bc⟩
  . have bC:=E.ab.J.cell 5;rw[E.av]at bC;have aH:n=aK.length:=aR.1.aL;have aZ:=zk aH;skip;by_cases bD:Z.head<n
    . obtain⟨ct,y,rfl,af,cu,_,_⟩:=aR.aC.at_ bD;have cv:=aR.2.2.2 y (zm af);have bd:=aR.2.2.1;have bE:-(-y)∈Az au:=by rw[aaa];obtain⟨u,b9⟩:=aD.pre;rw[b9];exact yp _ (zm af)
      have cc:=AgS wr wr (Gj C ag Z aL aM) C aL aM ag Z zg au d (-y) cl E.again aD.s (GL bn aD.g) aD.late bE;have bF:=zk (Q8 bC);have cx:decide ((Z.head:Int)<n)=true:=zt Ad;have cy:(0:Int)<=(Z.head:Int):=Ad;have aa:(Z.head:Int)<(n:Int):=Ad;have cz:IntKind.i64.wrap (-y)=-y:=z5 (-y) Ad;have cA:(n:Int)<=100000:=Ad;clear bE aH;go_wp2_with fail
      refine cc.mono ?_;rintro e aS⟨be,am,ao,ab,av,aw,rfl,aN,aE,bf,ce⟩;have H:=E.trans aN;have cf:=aR.bn (foot':=Gj C ab ao av aw) aN.st (λb hb=>hb) (λb hb=>hb.elim (aN.cw b) (aN.cv b));have cg:=ba.trans bf;rcases ce with⟨rfl,aT⟩|⟨ah,bc⟩
      . have a1:=aT.head;have bG:=H.ab.J.cell 5;have ch:=H.ab.J.frozen 5;rw[H.av]at bG ch;rw[a1]at bG;have ad:Au (λb=>b=ab.q) aS (aS.setCell ⟨C.q,5,none⟩ (.int .i64 ((Z.head:Int)+1))):=(Au.refl (λb=>b=ab.q) aS).setCell (p:=⟨C.q,5,none⟩) (.inl H.av.symm) _;have aq:Aq (aS.setCell ⟨C.q,5,none⟩ (.int .i64 ((Z.head:Int)+1))) ab.q 246 #[.pointer C.ap,.pointer C.al,.map (some ab.mp),.map (some ab.ao),.map (some ab.a1),((ao.head+1:Nat):Int),ab.cP]:=by have h:=H.ab.J.ad 5 (.int .i64 ((Z.head:Int)+1));rw[H.av]at h⊢;rw[a1];exact h
        have ak:=H.ab.c0 (hd':=ao.head+1) (sv':=ab.cP) (seen':=zg) ad aq (H.ab.own.setCell (p:=⟨C.q,5,none⟩) (λj e aF=>H.ab.own.ai H.ab.J Ax (by rw[e,aF,H.av])) _) H.ab.aF H.ab.bY (by have:=bd;have:=aT.head;omega);have ax:=H.aW ak (ad.mono (λj _ an=>.inl an)) (λb hb=>.inl (DH rfl b hb)) rfl;have ci:=cf.bn (foot':=Gj C ab {ao with head:=ao.head+1} av aw) ad (λb hb=>.inl (.inl hb)) (λb hb=>.inl (hb.imp (DH rfl b) id));have cj:=zk (Q8 (h:=Z.head+1) (by have h:=aq.cell 5;rw[H.av,a1]at h;exact h));clear aN bf a1 ad aq ak;by_cases aU:Z.head+1=n;have bH:=zk aU;have cm:((Z.head:Int)+1==n)=true:=by rw[x3];omega
        have cn:=ax.ab.J.cell 1;rw[ax.av]at cn;have co:=EY _ C.base C.al C.au av aw C.vars am C.aF ax.ah;clear aU;go_wp2_with fail
        refine co.mono ?_;rintro e bI⟨v,rfl,ae,bJ⟩;obtain⟨bK,bL,bM,rfl⟩:=ae.form;have bh:=ax.ext bJ;have bN:(Az am).length<=100000:=by have aa:=D5 aE.az;have V:=ax.ah.aA;rw[Cd];omega
        have cp:Jm bK bL bM (Az am) bI (Gj C ab {ao with head:=ao.head+1} av aw):=⟨ae.bK (zx _),λb e hb=>by have aa:=(ae.J b e).1;have V:=ax.lt hb;omega,bN,λy af=>by obtain⟨r,ah,e⟩:=zw.1 af;have:=AU (ax.ah.ok r ah);omega⟩;have cq:=zk (show Xo C.q bI=Z.head+1 from Q8 (by have h:=bh.ab.J.cell 5;rw[bh.av]at h;rw[<-aT.head];exact h));have aG:=aD.seen (now':=Az am) af aT (by rw[zq (by rw[<-aZ.out];exact bH)]);clear ae bJ bN;go_wp2;go_roundw;case rel=>exact⟨-1,am,_,_,av,aw,Az am,bK,bL,bM,rfl,rfl,bh,cp,aG.s,aG.g,.inl ⟨rfl,aG⟩⟩
        case measure=>rw[cq.out,bF.out];have:=bd;have:=aZ.out;omega
        . have bH:=zk aU;have cm:((Z.head:Int)+1==n)=false:=by rw[yv];omega
          have aG:=aD.seen (now':=aK) af aT (by rw[zo (by rw[<-aZ.out];exact aU)]);clear aU;go_wp2;go_roundw;case rel=>exact⟨-1,am,_,_,av,aw,aK,_,n,c,rfl,rfl,ax,ci,aG.s,aG.g,.inl ⟨rfl,aG⟩⟩
          case measure=>rw[cj.out,bF.out];have:=bd;have:=aZ.out;omega
      . have cr:decide (be>=0)=true:=zt ah;have cB:decide (0<=be)=true:=zt ah;clear aN bf;have aV:=EY aS C.base C.al C.au av aw C.vars am C.aF H.ah;have ay:=H.ab.J.cell 1;rw[H.av]at ay;skip;go_wp2_with fail
        refine aV.mono ?_;rintro e w2⟨vs,rfl,ac,az⟩;have J:=H.ext az;obtain⟨O,T,U,rfl⟩:=ac.form;have aW:=J.ab.J.cell 6;have f6:=J.ab.J.frozen 6;rw[J.av]at aW f6;clear ay;go_wp2;go_ret;have ad:Au (λb=>b=ab.q) w2 (w2.setCell ⟨C.q,6,none⟩ (.slice O T U)):=(Au.refl (λb=>b=ab.q) w2).setCell (p:=⟨C.q,6,none⟩) (.inl J.av.symm) _;have aq:Aq (w2.setCell ⟨C.q,6,none⟩ (.slice O T U)) ab.q 246 #[.pointer C.ap,.pointer C.al,.map (some ab.mp),.map (some ab.ao),.map (some ab.a1),ao.head,.slice O T U]:=by have h:=J.ab.J.ad 6 (.slice O T U);rw[J.av]at h⊢;exact h
        have ak:=J.ab.c0 (hd':=ao.head) (sv':=.slice O T U) (seen':=Az am) ad aq ((ac.bK (by have aa:=H.ab.ge.1;have V:=H.ab.J.lt;omega)).setCell (p:=⟨C.q,6,none⟩) (λj e aF=>by have aa:=(ac.J j e).1;have V:=H.ab.J.lt;rw[H.av]at V;dsimp only at aF;omega) _) (λm=>by
          refine .inr ?_;cases hb:(Value.slice O T U).ownBlock with
          |none=>exact .inl rfl
          |some j=> refine .inr (λe=>?_);have aa:=(ac.J j hb).1;have V:=(H.ab.lt (b:=j) (.inr (.inr (.inr (.inr (.inr (.inr ⟨m,e⟩))))))).2;omega)
         ⟨by have aa:=D5 aE.az;have V:=H.ah.aA;rw[Cd];omega,λy af=>by obtain⟨r,ah,e⟩:=zw.1 af;have:=AU (H.ah.ok r ah);omega⟩ H.ab.bM
        have aX:=H.aW ak (Au.ay az (ad.mono (λj _ an=>.inl an))) (λb hb=>by rcases hb with g|g|g|g|g|g|g;exact .inl (.inl g);exact .inl (.inr (.inl g));exact .inl (.inr (.inr (.inl g)));exact .inl (.inr (.inr (.inr (.inl g))));exact .inr (ac.J b g).1;exact .inl (.inr (.inr (.inr (.inr (.inr (.inl g))))));exact .inl (.inr (.inr (.inr (.inr (.inr (.inr g))))))) rfl;exact⟨be,am,_,_,av,aw,rfl,aX,⟨aE.az,aE.ah,aE.aG,aE.at_,aE.ok⟩,cg,.inr ⟨ah,bc⟩⟩
    have cs:=aD.calm (by rw[<-aH];exact bD);have cC:decide ((Z.head:Int)<n)=false:=zn Ad;clear aH;have aV:=EY wr C.base C.al C.au aL aM C.vars au C.aF E.ah;have ay:=E.ab.J.cell 1;rw[E.av]at ay;skip;go_wp2_with fail
    refine aV.mono ?_;rintro e w2⟨vs,rfl,ac,az⟩;have J:=E.ext az;obtain⟨O,T,U,rfl⟩:=ac.form;have aW:=J.ab.J.cell 6;have f6:=J.ab.J.frozen 6;rw[J.av]at aW f6;clear ay;go_wp2;go_ret;have ad:Au (λb=>b=ag.q) w2 (w2.setCell ⟨C.q,6,none⟩ (.slice O T U)):=(Au.refl (λb=>b=ag.q) w2).setCell (p:=⟨C.q,6,none⟩) (.inl J.av.symm) _;have aq:Aq (w2.setCell ⟨C.q,6,none⟩ (.slice O T U)) ag.q 246 #[.pointer C.ap,.pointer C.al,.map (some ag.mp),.map (some ag.ao),.map (some ag.a1),Z.head,.slice O T U]:=by have h:=J.ab.J.ad 6 (.slice O T U);rw[J.av]at h⊢;exact h
    have ak:=J.ab.c0 (hd':=Z.head) (sv':=.slice O T U) (seen':=Az au) ad aq ((ac.bK (by have aa:=E.ab.ge.1;have V:=E.ab.J.lt;omega)).setCell (p:=⟨C.q,6,none⟩) (λj e aF=>by have aa:=(ac.J j e).1;have V:=E.ab.J.lt;rw[E.av]at V;dsimp only at aF;omega) _) (λm=>by
      refine .inr ?_;cases hb:(Value.slice O T U).ownBlock with
      |none=>exact .inl rfl
      |some j=> refine .inr (λe=>?_);have aa:=(ac.J j hb).1;have V:=(E.ab.lt (b:=j) (.inr (.inr (.inr (.inr (.inr (.inr ⟨m,e⟩))))))).2;omega)
     ⟨by have aa:=D5 aj.az;have V:=E.ah.aA;rw[Cd];omega,λy af=>by obtain⟨r,ah,e⟩:=zw.1 af;have:=AU (E.ah.ok r ah);omega⟩ E.ab.bM
    have aX:=E.aW ak (Au.ay az (ad.mono (λj _ an=>.inl an))) (λb hb=>by rcases hb with g|g|g|g|g|g|g;exact .inl (.inl g);exact .inl (.inr (.inl g));exact .inl (.inr (.inr (.inl g)));exact .inl (.inr (.inr (.inr (.inl g))));exact .inr (ac.J b g).1;exact .inl (.inr (.inr (.inr (.inr (.inr (.inl g))))));exact .inl (.inr (.inr (.inr (.inr (.inr (.inr g))))))) rfl;exact⟨-1,au,_,_,aL,aM,rfl,aX,⟨aj.az,aj.ah,aj.aG,aj.at_,aj.ok⟩,ba,.inl ⟨rfl,cs⟩⟩
  have cr:decide (r<0)=false:=zn Ad;skip;have aV:=EY wr C.base C.al C.au aL aM C.vars au C.aF E.ah;have ay:=E.ab.J.cell 1;rw[E.av]at ay;skip;go_wp2_with fail
  refine aV.mono ?_;rintro e w2⟨vs,rfl,ac,az⟩;have J:=E.ext az;obtain⟨O,T,U,rfl⟩:=ac.form;have aW:=J.ab.J.cell 6;have f6:=J.ab.J.frozen 6;rw[J.av]at aW f6;clear ay;go_wp2;go_ret;have ad:Au (λb=>b=ag.q) w2 (w2.setCell ⟨C.q,6,none⟩ (.slice O T U)):=(Au.refl (λb=>b=ag.q) w2).setCell (p:=⟨C.q,6,none⟩) (.inl J.av.symm) _;have aq:Aq (w2.setCell ⟨C.q,6,none⟩ (.slice O T U)) ag.q 246 #[.pointer C.ap,.pointer C.al,.map (some ag.mp),.map (some ag.ao),.map (some ag.a1),Z.head,.slice O T U]:=by have h:=J.ab.J.ad 6 (.slice O T U);rw[J.av]at h⊢;exact h
  have ak:=J.ab.c0 (hd':=Z.head) (sv':=.slice O T U) (seen':=Az au) ad aq ((ac.bK (by have aa:=E.ab.ge.1;have V:=E.ab.J.lt;omega)).setCell (p:=⟨C.q,6,none⟩) (λj e aF=>by have aa:=(ac.J j e).1;have V:=E.ab.J.lt;rw[E.av]at V;dsimp only at aF;omega) _) (λm=>by
    refine .inr ?_;cases hb:(Value.slice O T U).ownBlock with
    |none=>exact .inl rfl
    |some j=> refine .inr (λe=>?_);have aa:=(ac.J j hb).1;have V:=(E.ab.lt (b:=j) (.inr (.inr (.inr (.inr (.inr (.inr ⟨m,e⟩))))))).2;omega)
   ⟨by have aa:=D5 aj.az;have V:=E.ah.aA;rw[Cd];omega,λy af=>by obtain⟨r,ah,e⟩:=zw.1 af;have:=AU (E.ah.ok r ah);omega⟩ E.ab.bM
  have aX:=E.aW ak (Au.ay az (ad.mono (λj _ an=>.inl an))) (λb hb=>by rcases hb with g|g|g|g|g|g|g;exact .inl (.inl g);exact .inl (.inr (.inl g));exact .inl (.inr (.inr (.inl g)));exact .inl (.inr (.inr (.inr (.inl g))));exact .inr (ac.J b g).1;exact .inl (.inr (.inr (.inr (.inr (.inr (.inl g))))));exact .inl (.inr (.inr (.inr (.inr (.inr (.inr g))))))) rfl;exact⟨r,au,_,_,aL,aM,rfl,aX,⟨aj.az,aj.ah,aj.aG,aj.at_,aj.ok⟩,ba,.inr ⟨ah,bc⟩⟩
def Qo(L:AT):Prop:=∃R,Go.Proofs.YtdmempceikifeaaGreat.Good (Az R)/\∀c∈L,Calm R c
structure CW where
 conflict:Int
 calm:Bool
 conflicts:Int
 aJ:Bool
structure CC(L)(n)(E)(X:CW):Prop where
 inv:C0 L n E
 told:Told L E.P E.A.rows E.id
 cB:E.id=L.length+X.conflicts
 cm:0<=X.conflicts
 aJ:X.aJ=(E.P.foldl BU (BG L)).done
 eB:0<=X.conflict->∃c,AY E.A.rows X.conflict=some c/\∀x∈c,-x∈Az E.R
 calm:X.calm=true->∀c,E.C c->Calm E.R c
 c3:1<=E.d->Qo L
 cW:1<=X.conflicts->X.aJ=false->Qo L
section
variable{L}{n}{E}{X}
theorem SE{S s}(u:s.kind=1):BU S s=KC S s.id s.lits:=zo (by rw[u];decide)
def By.put(W:By)(x:Int)(c:An):By:={W with af:=λz=>if z=x then some c else W.af z,late:=λz=>if z=x then true else W.late z}
theorem P2(h:C0 L n E){c}(u:c∈L):E.C c:=by obtain⟨r,H,J,_,rfl⟩:=h.given c u;exact⟨r.pos,AaP h.aS H J⟩
theorem CC.eG(h:CC L n E X)(u:∀c,E.C c->Calm E.R c):Qo L:=⟨E.R,h.inv.ah.aE,λc H=>u c (P2 h.inv H)⟩
theorem CC.back(h:CC L n E X){k}(u:0<=k)(H:k<=E.d){ze}(J:∀v,v∈E.row->v∈ze)(O:∀r∈Fy E.R k,Ak r.lit∈ze):CC L n {E with R:=Bp E.R k,d:=k,row:=ze} {X with conflict:=-1,calm:=false}:=by refine⟨h.inv.back u H J O,h.told,h.cB,h.cm,h.aJ,λe=>?_,λe=>?_,λe=>h.c3 ?_,h.cW⟩;have e':(0:Int)<=-1:=e;omega;have e':=e;cases e';grind
theorem CC.prop(h:CC L n E X){R' W' r}(u:EK n E.d (AY E.A.rows) R' W')(H:Grown E.d E.R R')(J:(r<0/\∀x c,AY E.A.rows x=some c->Calm R' c)\/(0<=r/\∃c,AY E.A.rows r=some c/\∀l∈c,-l∈Az R')):CC L n {E with R:=R',W:=W',seen:=Az R'} {X with conflict:=r,calm:=decide (r<0)}:=by refine⟨h.inv.grown H u.az u.ah u.aG u.at_,h.told,h.cB,h.cm,h.aJ,λe=>?_,λe=>?_,h.c3,h.cW⟩;have e':0<=r:=e;grind;have e':=e;have O:=of_decide_eq_true e';have:=(J.resolve_right (λg=>Ad)).2;rintro c⟨x,T⟩;grind
theorem CC.cC(h:CC L n E X)(u:X.calm=true){y}(H:Df ⟨n,E.R,E.d⟩ y=0){ze}(J:∀v,v∈E.row->v=Ak y\/(∃r∈E.R,Ak r.lit=v)\/v∈ze)(O:X.conflict<0):CC L n {E with R:=E.R++[⟨y,E.d+1,-1⟩],d:=E.d+1,row:=ze} {X with calm:=false}:=by refine⟨h.inv.cC (h.calm u) H J,h.told,h.cB,h.cm,h.aJ,λe=>?_,λe=>?_,λ_=>h.eG (h.calm u),h.cW⟩;have e':0<=X.conflict:=e;omega;simp_all
theorem CC.el(h:CC L n E X)(U:E.d=0){s}(H:s.lits=[])(J:s=⟨1,E.id+1,[],s.hints⟩)(V:Told L (E.P++[s]) (E.A.rows++[⟨E.A.size,E.id+1,[],true,true⟩]) (E.id+1))(O:KE (E.id+1) [])(T:CG (Du E.A (E.id+1) [] true)):CC L n {E with A:=Du E.A (E.id+1) [] true,W:=E.W.put E.A.size [],id:=E.id+1,P:=E.P++[s]} {X with conflict:=-1,calm:=false,conflicts:=X.conflicts+1,aJ:=true}:=by have u:=h.inv.add (zd:=[]) (b:=true) O AG AG (λj Z u=>Ad) T;refine⟨⟨u.az,u.ah,u.bX,u.aS,u.cls,u.len,u.af,u.aG,u.calm,u.bj,u.num,u.given,u.free⟩,?_,?_,?_,?_,λe=>?_,λe=>?_,λe=>?_,λ_ e=>?_⟩;grind[Du,JF];show E.id+1=L.length+(X.conflicts+1);have:=h.cB;omega;have:=h.cm;grind;show true=((E.P++[s]).foldl BU (BG L)).done;rw[xr];show true=(BU (E.P.foldl BU (BG L)) s).done;rw[SE (by rw[J])];show true=((E.P.foldl BU (BG L)).done||decide (s.lits.length=0));rw[H];simp;have e':(0:Int)<=-1:=e;omega;have e':=e;cases e';have e':1<=E.d:=e;omega;grind
theorem CC.resolve(h:CC L n E X){zi k y rest ze s}(J:1<=E.d)(U:MA E.R (AY E.A.rows) E.d zi (y::rest)) (ab:k=0/\rest=[]\/∃z∈rest,AR E.R (Ak z)=k/\∀x∈rest,AR E.R (Ak x)<=k) (O:∀v,v∈E.row->v∈ze)(ac:∀r∈Fy E.R k,Ak r.lit∈ze) (V:s=⟨1,E.id+1,y::rest,s.hints⟩)(ay:Told L (E.P++[s]) (E.A.rows++[⟨E.A.size,E.id+1,y::rest,true,true⟩]) (E.id+1))(ad:KE (E.id+1) (y::rest))(ae:∀x∈y::rest,AV x n=0)(af:CG (Du E.A (E.id+1) (y::rest) true))(ag:E.A.size<=Bh):0<=k/\k<E.d/\Gx ⟨n,Bp E.R k,k⟩ y E.A.size=0/\CC L n {E with R:=Bp E.R k++[⟨y,k,E.A.size⟩],d:=k,row:=ze,A:=Du E.A (E.id+1) (y::rest) true,W:=E.W.put E.A.size (y::rest),id:=E.id+1,P:=E.P++[s]} {X with conflict:=-1,calm:=false,conflicts:=X.conflicts+1}:=by
 obtain⟨Z,ah,az,aA,aj⟩:=h.inv.resolved J U ab;have ak:=Fi U.vars;have al:=h.inv.back Z Ad O ac;have H:=al.add (zd:=y::rest) (b:=true) ad ak ae (λj aB am=>by have:Bp (Bp E.R k) j=Bp E.R j:=QL E.R (by have:j<k:=am;omega);grind) af;have an:=(JF (S:=E.A) (b:=true) (id:=E.id+1) (zd:=y::rest)).1;have T:∀x,AY (Du E.A (E.id+1) (y::rest) true).rows x=if x=E.A.size then some (y::rest)else AY E.A.rows x:=λx=>by rw[an];exact Q7 h.inv.aS _ _ _ x
 have ao:0<=E.A.size:=by have:=H.aS;have e:=T E.A.size;rw[zq rfl]at e;exact(KJ this e).1
 have aq:=aj (Du E.A (E.id+1) (y::rest) true) E.A.size ao (by rw[T,zq rfl]) (λr O au=>by obtain⟨i,hi⟩:=z0 O;obtain⟨c,av,_⟩:=h.inv.ah.aY i r hi au;have hb:=(KJ h.inv.aS av).2;rw[T,zo Ad]);have aa:Gx ⟨n,Bp E.R k,k⟩ y E.A.size=0:=by unfold Gx;rw[zo Ad,zo Ad]
 have aw:DW ⟨n,Bp E.R k++[⟨y,k,E.A.size⟩],k⟩:=by have:=H.az.imp y ag;unfold Hw at this;have e:=aa;grind
 have u:=H.grown (R':=Bp E.R k++[⟨y,k,E.A.size⟩]) (W':=E.W.put E.A.size (y::rest)) (seen':=E.seen) ⟨[⟨y,k,E.A.size⟩],rfl,by grind⟩ aw aq H.aG H.af;refine⟨Z,ah,aa,⟨⟨u.az,u.ah,u.bX,u.aS,u.cls,u.len,u.af,u.aG,u.calm,u.bj,u.num,u.given,u.free⟩,?_,?_,?_,?_,λe=>?_,λe=>?_,λ_=>h.c3 J,λ_ _=>h.c3 J⟩⟩;grind;show E.id+1=L.length+(X.conflicts+1);have:=h.cB;omega;have:=h.cm;grind;show X.aJ=((E.P++[s]).foldl BU (BG L)).done;rw[xr];show X.aJ=(BU (E.P.foldl BU (BG L)) s).done;rw[SE (by rw[V])];show X.aJ=((E.P.foldl BU (BG L)).done||decide (s.lits.length=0));have ax:s.lits=y::rest:=by rw[V]
 rw[ax,<-h.aJ];simp;have e':(0:Int)<=-1:=e;omega;grind
end
def Bl.eX{w:Aj}{za ap u:Nat}{Y:C7}{W:By}{zg:An}(h:Bl w za ap u Y W zg){x:Int}(hb:0<=x/\x<=Bh)(E:W.af x=none):(Instr.lookup 244 (.map (some Y.mp)) x false).run prog w=.ok (.pointer none) w:=by obtain⟨O,f,H,J,_⟩:=h.bE;rw[H.look Tb (by unfold Bj;omega),J x,E];rfl
def O4:Enters 218:=by intro args w;go_simp
def VX(w:World)(l v:Int)(g:Nat)(hb:w.cell? ⟨g,0,none⟩=some (.int .i64 v))(E:AV l v=0):Calls prog 218 #[l,.pointer g] w λe w'=>e=.returned false/\w=w':=by
 have u:=Hg l v w;rw[E]at u;have H:=u;go_enter func218,ntmps218;go_wp2_with fail
 refine H.mono ?_;rintro e J⟨rfl,rfl⟩;go_wp2;go_ret;exact⟨rfl,rfl⟩
def Yv(wr:Aj)(v:Aw)(W:Aj):Prop:=∃g,v=.pointer (some ⟨g,0,none⟩)/\wr.heap.size<=g/\Aq W g 3 #[.int .i64 0]
def Yv.ext{wr:Aj}{v:Aw}{W W':Aj}(h:Yv wr v W)(u:Ae W W'):Yv wr v W':=let⟨g,E,H,J⟩:=h;⟨g,E,H,J.ext u⟩
def Ai8(n:Nat)(v:Aw)(_:Aj):Prop:=∃A c,v=.slice A n c
def AbV(u:Aj)(F:Nat->Prop)(C:GA)(R:List AH)(W:By)(zg:An)(lv E:Aw)(x:Int)(c:An)(e:Bz)(w':Aj):Prop:=e=.returned ()/\∃Y,EQ u F C R (W.put x c) zg w' Y lv E
def T9(aK w:Aj)(F:Nat->Prop)(C:GA)(lv aa:Aw)(Y:C7)(W:By)(zg:An)(R:List AH)(al am an:Nat)(ao:Aw)(S:Fb)(x:Int)(c:An)(u:EQ aK F C R W zg w Y lv aa)(ab:BL w al C.ap am ao an S)(aL:AY S.rows x=some c) (T:W.af x=none)(ac:W.two x=none)(J:W.late x=false)(U:(0<=x/\x<=Bh)/\c.length<=1000)(aq:∀l∈c,AV l C.vars=0)(a5:∃L:An,L.length<=999999999/\∀z d,W.af z=some d->z∈L) (a6:∀z,W.late z=true->∃d,W.af z=some d)(bH:R.length<=C.vars):AC 139 #[.pointer C.q,x] w (AbV aK F C R W zg lv aa x c):=by
 have aM:∀l∈c,-100000<=l/\l<=100000:=λl J=>by have:=AU (aq l J);omega
 have aN:=u.ab.J.cell 0;have au:=u.ab.J.cell 1;have av:=u.ab.J.cell 2;rw[u.av]at aN au av;have a7:=u.ab.eX U.1 T;have bI:∀W:Aj,(binOp .neq 305 (.pointer none) (.pointer none)).run prog W=.ok false W:=λ_=>AJ;obtain⟨r,aw,aO,a8,a9,aP⟩:=EZ aL;have hid:Bb S.rows x=r.id:=F5 aw;have bJ:(Bb S.rows x==0)=false:=by rw[hid,yv];have:=(ab.inv.ok r aO).1.1;omega
 have ba:=Nw w al C.ap am ao an S x ab Ad;have ax:=I9 w al C.ap am ao an S x ab Ad;rw[show BY S.rows x=c by unfold BY;rw[aw];exact aP]at ax;have bc:=OX w C.q Y.mp av;have bd:=ax;have be:=zk T;have bf:=zk ac;have bh:=zk J;have bi:=zk aq;have bj:=u.ah.aA;clear ab aL T ac J aq aw aO a8 a9 aP hid ax;go_enter func139,ntmps139;go_wp2_with fail
 refine bc.mono ?_;rintro e Z⟨rfl,rfl⟩;go_wp2_with fail
 refine ba.mono ?_;rintro e Z⟨rfl,rfl⟩;go_wp2_with fail
 refine bd.mono ?_;rintro e Z⟨v,rfl,ay,az⟩;obtain⟨A,n,ad,rfl⟩:=ay.form;have aQ:=ay;have aR:=u.ext az;clear ay a7;have bk:=λW'(E:Ae Z W')=>E.cell (az.cell au);clear aN au av;go_wp2;refine Ct [(42,Ai8 R.length),(43,λv _=>v=.int .i64 (R.length:Nat)),(44,λv _=>v=C.vars),(6,Yv Z)] (n:=13) AJ rfl rfl ?_ ?_;exact .cons (λ_ _ _ h _=>h) (.cons (λ_ _ _ h _=>h) (.cons (λ_ _ _ h _=>h) (.cons (λ_ _ _ h T=>h.ext T) .nil)));simp only[List.take_succ_cons,List.take_zero];(repeat apply Ep rfl rfl (λW E=>Am) Am);apply KT rfl (λW E=>TE W C.base C.al C.au lv aa C.vars R C.aF (aR.ext E).ah) rfl (λW E=>by go_simp) Am;(repeat apply Ep rfl rfl (λW E=>Am) Am);refine Di 42 _ (by rfl) rfl rfl (by rfl) (λW' σ E H=>?_) Am ?_;simp only[AQ];refine .inr ⟨_,_,by go_simp,(EY W' C.base C.al C.au lv aa C.vars R C.aF (aR.ext E).ah).mono ?_⟩;rintro e w'⟨v,rfl,O,ac⟩;obtain⟨A',n',c',rfl⟩:=O.form;have aS:n'=(Az R).length:=O.aL;rw[Cd]at aS;subst aS;exact⟨_,rfl,ac,A',c',rfl⟩;refine Di 43 _ (by rfl) rfl rfl (by rfl) (λW' σ E H=>?_) Am ?_;obtain⟨A',c',O⟩:=H 42 _ rfl AJ;simp only[AQ,O];exact .inl ⟨_,_,by go_simp,Ae.refl _,rfl⟩;refine Di 44 _ (by rfl) rfl rfl (by rfl) (λW' σ E H=>?_) Am ?_;have O:σ 43=_:=H 43 _ rfl AJ;simp only[AQ,O];have bK:IntKind.i64.wrap (C.vars:Int)=C.vars:=by have:=bj;rw[z5 _ Ad]
 exact .inl ⟨_,_,by go_simp,Ae.refl _,rfl⟩;refine Di 6 _ (by rfl) rfl rfl (by rfl) (λW' σ E H=>?_) Am ?_;simp only[AQ];exact .inl ⟨_,_,by go_simp,by grind,_,rfl,E.size,Aq.new W' _ _⟩;refine AN λW' σ bn H=>?_;have aT:σ 44=_:=H 44 _ rfl;obtain⟨g,aU,br,aA⟩:=H 6 _ rfl;simp only[AQ,aT,aU];have d0:=aA.cell 0;have f0:=aA.frozen 0;clear H aT aU bk;go_wp2_with fail
 generalize aB:W'.setCell g C.vars=ae at *;have af:Ae Z ae:=by rw[<-aB];exact(Au.ay bn ((Au.refl (λb=>b=g) W').setCell (p:=g) (.inl rfl) C.vars)).ext (λb hb=>hb▸br)
 have aV:ae.cell? g=some C.vars:=by rw[<-aB];exact(aA.ad 0 C.vars).cell 0
 have aC:=I1 A n ad c (λ_=>false) 218 #[.pointer g] ae (λV=>Ae ae V) (Ae.refl _) (λV ag=>((aQ.ext af).ext ag).bZ (by have:=U.2;omega) (λl J=>by have:=aM l J;omega)) O4 (λl J V ag=>(VX V l C.vars g (ag.cell aV) (bi l J)).mono λe w' h=>⟨h.1,by rw[<-h.2];exact ag,by rw[h.2];exact Ae.refl _⟩);have aW:(c.any λ_=>false)=false:=AG;rw[aW]at aC;have bt:=aC;have bu:=az.trans af;have aD:=aQ.ext af;clear af aV aC aW aB d0 f0;refine bt.mono ?_;rintro e ah⟨rfl,aE⟩;have aF:=bu.trans aE;have aj:Ae w (ah.alloc (.cells #[.slice A n ad,(),()] 307)):=by have O:=aF;grind
 have aG:=aF.size;have bw:=u.ab.ge.1;have bx:=u.ab.J.lt;obtain⟨bL,bM,ak,aX⟩:=u.ab.eD (v:=.slice A n ad) (g:=ah) be bf ⟨U.1,U.2,aM⟩ aj (Aq.new ah _ _) aG (((aD.ext aE).alloc _).bK Ad) (λk e=>(aD.J k e).1) Ad a5;have aH:(AE W.af x (some c)) x=some c:=AO _ _ _;have bz:=ak.dD (x:=x) U.1 bh;obtain⟨bA,t1,t2,t3⟩:=ak.dt (x:=x) aH (λz aI=>by by_cases e:z=x;exact⟨c,by rw[e];exact aH⟩;obtain⟨bB,bC⟩:=a6 z aI;exact⟨bB,(AK _ _ e).trans bC⟩);have aY:=aj.cell (u.ab.J.cell 2);have aZ:=ak.J.cell 4;have bD:=((Ae.refl ah).alloc (.cells #[.slice A n ad,(),()] 307));have bE:=aF.cell (u.ab.J.cell 2);rw[u.av]at aY bE;dsimp only at aZ bz t1;rw[u.av]at aZ;have a1:Au (EW Y W) w bA:=(Au.ay aj (aX.mono (λj _ aJ=>.inr (.inl aJ)))).trans t3 (λj _ aJ=>.inr (.inr (.inr (.inl aJ))));have bF:=u.aW (W':=W.put x c) t2 a1 (λb hb=>by rcases hb with h|h|h|h|h|⟨z,d,aI,h⟩|⟨m,h⟩;exact .inl (.inl h);exact .inl (.inr (.inl h));exact .inl (.inr (.inr (.inl h)));exact .inl (.inr (.inr (.inr (.inl h))));exact .inl (.inr (.inr (.inr (.inr (.inl h)))));by_cases e:z=x;subst e;dsimp only at h;rw[AO,AO]at h;refine .inr ?_;rcases h with rfl|h;exact aG;exact(aD.J b h).1;dsimp only at h;rw[AK _ _ e,AK _ _ e]at h;have bG:W.af z=some d:=(zo e).symm.trans aI;exact .inl (.inr (.inr (.inr (.inr (.inr (.inl ⟨z,d,bG,h⟩))))));exact .inl (.inr (.inr (.inr (.inr (.inr (.inr ⟨m,h⟩))))))) rfl;clear aE aj aG bw bx ak aX t2 t3 aH aY bD a1;go_wp2;go_ret;exact⟨rfl,_,bF⟩
def VD(w:Aj)(za ap ae:Nat)(Y:C7)(W:By)(zg:An)(x:Int)(c:An)(af:Bl w za ap ae Y W zg)(V:W.af x=some c)(ag:W.two x=none):AC 253 #[.pointer Y.q,x] w λe w'=>e=.returned (.tuple #[])/\Bl w' za ap ae Y {W with two:=AE W.two x none} zg/\Au (EW Y W) w w':=by
 have ah:Ae w (w.alloc (.cells #[x] 3)):=by grind
 have aj:=Aq.new w 3 #[x];have H:=af.ext ah;have ak:JI W x=(0,0):=by unfold JI;rw[ag];rfl
 have Z:=(H.pair x c V).1;rw[ak]at Z;have T:=zk V;have aa:=Z;clear af V ag Z ak;go_enter func253,ntmps253;go_wp2;generalize am:w.alloc (.cells #[x] 3)=J at *;have ab:=λW'(u:Ae J W')=>u.cell (H.J.cell 2);have ac:=λW'(u:Ae J W')=>u.cell (aj.cell 0);have an:=λW'(u:Ae J W')=>u.cell (aa.cell 1);have ao:=λW'(u:Ae J W')=>u.cell (aa.cell 2);have ad:=λW'(u:Ae J W')=>(H.ext u).b1 T;refine AL AJ ?_;(repeat first|apply Bg rfl (λW u=>Am) Am|apply AS rfl Am);refine AN λU aq=>?_;clear ab ac an ao ad am;go_wp2;go_loopw[15](λi wr=>∃(k:Nat),i=k/\k<=2/\Ae J wr)(λi _=>2-(intOf i).toNat);case atStart=>exact⟨0,rfl,Ad,aq⟩
 case round=>
  obtain⟨k,rfl,ay,E⟩:=hrel;skip;have az:=Q6 0 0;have aA:=QS 0 0;rcases(show k=0\/k=1\/k=2 by omega)with rfl|rfl|rfl;go_wp2;go_roundw;case rel=>exact⟨1,rfl,Ad,E⟩
  case measure=>simp[intOf]
  go_wp2;go_roundw;case rel=>exact⟨2,rfl,Ad,E⟩
  case measure=>simp[intOf]
  go_wp2;have ab:=λW'(u:Ae wr W')=>u.cell (E.cell (H.J.cell 2));have ac:=λW'(u:Ae wr W')=>u.cell (E.cell (aj.cell 0));have ad:=λW'(u:Ae wr W')=>(H.ext (E.trans u)).b1 T;refine CO (n:=9) AJ rfl rfl ?_;simp only[List.take_succ_cons,List.take_zero];(repeat first|apply Bg rfl (λW u=>Am) Am|apply AS rfl Am);refine AN λU u=>?_;have O:=aa.ext (E.trans u);have d1:=O.cell 1;have d2:=O.cell 2;have f1:=O.frozen 1;have f2:=O.frozen 2;have au:=H.ext (E.trans u);have av:=E.trans u;clear u ab ac ad;go_wp2;go_end0;have al:Au (λk=>k=Y.ak x) U ((U.setCell ⟨Y.ak x,1,none⟩ ()).setCell ⟨Y.ak x,2,none⟩ ()):=((Au.refl (λk=>k=Y.ak x) U).setCell (p:=⟨Y.ak x,1,none⟩) (.inl rfl) _).setCell (p:=⟨Y.ak x,2,none⟩) (.inl rfl) _;have aw:=au.cY (x:=x) T (o:=none) al ((O.ad 1 ()).ad 2 ());refine⟨rfl,aw,?_⟩;exact(Au.ay ah (Au.ay av al)).mono λj _ ax=>.inr (.inr (.inr (.inr (.inr (.inl ⟨x,c,T,.inl ax⟩)))))
def Vl{u:Type}{f:Int->u}{x:Int}{v:u}(h:f x=v):AE f x v=f:=by funext z;by_cases e:z=x;subst e;rw[AO,h];rw[AK _ _ e]
def Zg{E:Type}{f:Int->E}{x:Int}{u v:E}:AE (AE f x u) x v=AE f x v:=by funext z;by_cases e:z=x;subst e;rw[AO,AO];rw[AK _ _ e,AK _ _ e,AK _ _ e]
def Ack(u:Aj)(F:Nat->Prop)(C:GA)(R:List AH)(W:By)(zg:An)(lv E:Aw)(x:Int)(e:Bz)(w':Aj):Prop:=e=.returned ()/\∃W' Y,EQ u F C R W' zg w' Y lv E/\(∀z,W'.af z=if z=x then none else W.af z)/\CK zg W'
def AbG(H:Aj)(F:Nat->Prop)(C:GA)(R:List AH)(W:By)(zg:An)(lv bv:Aw)(x:Int)(Y:C7)(e:Bz)(w':Aj):Prop:=e=.returned (.tuple #[])/\∃J E u,EQ H F C R {W with two:=E,aa:=u} zg w' {Y with bv:=J} lv bv/\(∀l,x∉u l)/\CK zg (({W with two:=E,aa:=u}:By).gone x)
def V0(Z w:Aj)(F:Nat->Prop)(C:GA)(lv aa:Aw)(Y:C7)(W:By)(zg:An)(R:List AH)(x:Int)(c:An)(E:EQ Z F C R W zg w Y lv aa)(H:W.af x=some c)(J:CK zg W)(ab:∀l∈c,l≠0):AC 253 #[.pointer C.q,x] w (AbG Z F C R W zg lv aa x Y):=by
 rw[<-E.av];have hb:=E.ab.cls x c H;rcases J.split x c H with⟨ag,u⟩|⟨ag,a,b,u,ac,ad,ae⟩;refine(VD w C.base C.ap C.al Y W zg x c E.ab H u).mono ?_;rintro e w'⟨rfl,T,U⟩;refine⟨rfl,Y.bv,AE W.two x none,W.aa,E.aW T U (λb hb=>.inl (DH rfl b hb)) rfl,λm O=>?_,?_⟩;obtain⟨_,_,g,_⟩:=J.only x m O;rw[u]at g;cases g;have V:({W with two:=AE W.two x none,aa:=W.aa}:By)=W:=by rw[Vl u]
 rw[V];exact J.gone u;refine(MG w C.base C.ap C.al Y W zg x a b c E.ab H u ⟨hb.2.2 a ad,ab a ad⟩ ⟨hb.2.2 b ae,ab b ae⟩).mono ?_;rintro e w'⟨rfl,ah,T,U,V⟩;have af:=J.aO H u;refine⟨rfl,ah,AE W.two x none,FA W x a b 2,E.aW T U (GV rfl (λm k e=>.inl (by rw[<-V m];exact e))) rfl,λm O=>?_,?_⟩;have aj:(W.aO x a b).aa m=FA W x a b 2 m:=by rw[<-Kb ac]
 rw[<-aj]at O;obtain⟨p,q,g,_⟩:=af.only x m O;rw[PG]at g;cases g;have ak:(W.aO x a b).gone x=({W with two:=AE W.two x none,aa:=FA W x a b 2}:By).gone x:=by rw[<-Kb ac];show({af:=_,two:=_,aa:=_,late:=AE (AE W.late x true) x false,head:=_}:By)={af:=_,two:=_,aa:=_,late:=AE W.late x false,head:=_};rw[Zg]
 rw[<-ak];exact(af.gone (PG W x a b))
def AdE(O w:Aj)(F:Nat->Prop)(C:GA)(lv T:Aw)(Y:C7)(W:By)(zg:An)(R:List AH)(x:Int)(c:An)(u:EQ O F C R W zg w Y lv T)(E:W.af x=some c)(V:CK zg W)(Z:∀l∈c,l≠0):AC 158 #[.pointer C.q,x] w (Ack O F C R W zg lv T x):=by
 have aa:=(u.ab.cls x c E).1;have ab:=u.ab.J.cell 2;rw[u.av]at ab;have aq:=u.ab.b1 E;have au:∀W:Aj,(binOp .eql 305 (.pointer (some ⟨Y.ak x,0,none⟩)) (.pointer none)).run prog W=.ok false W:=λ_=>AJ;have ag:=V0 O w F C lv T Y W zg R x c u E V Z;have av:=zk E;clear u V Z E;go_enter func158,ntmps158;go_wp2_with fail
 refine(OX w C.q Y.mp ab).mono ?_;rintro e ah⟨rfl,rfl⟩;go_wp2_with fail
 refine ag.mono ?_;rintro e ah⟨rfl,aw,ax,ay,H,aj,ak⟩;obtain⟨w2,al,ac,am⟩:=H.ab.eu (x:=x) aa aj 0;obtain⟨az,t1,t2,t3⟩:=ac.dV (x:=x) aa 0;have ad:=H.ab.J.cell 2;have ae:=ac.J.cell 4;dsimp only at ad ae al t1;have af:=H.av;dsimp only at af;rw[af]at ad ae;have an:=H.aW t2 ((am.mono (λj _ U=>.inr (.inl U))).trans t3 (λj _ U=>.inr (.inr (.inr (.inl U))))) (λb hb=>by rcases hb with h|h|h|h|h|⟨z,d,ao,h⟩|⟨m,h⟩;exact .inl (.inl h);exact .inl (.inr (.inl h));exact .inl (.inr (.inr (.inl h)));exact .inl (.inr (.inr (.inr (.inl h))));exact .inl (.inr (.inr (.inr (.inr (.inl h)))));have J:AE W.af x none z=some d:=ao;by_cases e:z=x;subst e;rw[AO]at J;cases J;rw[AK _ _ e]at J;exact .inl (.inr (.inr (.inr (.inr (.inr (.inl ⟨z,d,J,h⟩))))));exact .inl (.inr (.inr (.inr (.inr (.inr (.inr ⟨m,h⟩))))))) rfl;go_wp2;go_ret;exact⟨rfl,_,_,an,λz=>rfl,ak⟩
def Afp(ap u:Nat)(w:Aj)(e:Bz)(w':Aj):Prop:=∃Y,e=.returned (.pointer Y.q)/\Bl w' w ap u Y ⟨λ_=>none,λ_=>none,λ_=>[],λ_=>false,0⟩ []/\Ae w w'/\∀b,EW Y ⟨λ_=>none,λ_=>none,λ_=>[],λ_=>false,0⟩ b->w<=b
def IU{P:Program}(t:TypeId)(w:Aj):(Instr.makeMap t none).run P w=.ok (.map (some w)) (w.alloc (.map #[] 0)):=by simp only[Instr.makeMap,aac];rfl
def Iq(w:Aj)(o:Obj):(w.alloc o).heap.size=w+1:=by show(w.heap.push o).size=_;exact Array.size_push ..
def AbZ(w:Aj)(ap u:Nat):Bl ((((w.alloc (.map #[] 0)).alloc (.map #[] 0)).alloc (.map #[] 0)).alloc (.cells #[.pointer ap,.pointer u,.map (some w),.map (some (w+1)),.map (some (w+1+1)),(),AI] 246)) w ap u ⟨w+1+1+1,w,w+1,w+1+1,AI,λ_=>0,λ_=>AI,λ_=>AI⟩ ⟨λ_=>none,λ_=>none,λ_=>[],λ_=>false,0⟩ []:=by
 have E:(w.alloc (.map #[] 0)).heap.size=w+1:=Iq _ _;have H:((w.alloc (.map #[] 0)).alloc (.map #[] 0)).heap.size=w+1+1:=by rw[Iq,Iq]
 have J:(((w.alloc (.map #[] 0)).alloc (.map #[] 0)).alloc (.map #[] 0)).heap.size=w+1+1+1:=by rw[Iq,Iq,Iq]
 have O:BB (w.alloc (.map #[] 0)) w [] λ_=>none:=BB.made w;refine⟨J▸Aq.new _ _ _,⟨[],_,O.ext (by grind),λx=>rfl,AG⟩,(λx c h=>by cases h),⟨[],_,(E▸BB.made _).ext (by grind),λx=>.inl ⟨rfl,rfl⟩,AG⟩,λl=>Ay.nil _ _,⟨[],_,(H▸BB.made _).ext (by grind),λx=>rfl,AG⟩,Ay.nil _ _,(λx y c d h=>by cases h),λ_ _ _=>.inl rfl,λ_ _ _ _=>.inl rfl,λ_=>.inl rfl,⟨by show w.heap.size≠w.heap.size+1;omega,by show w.heap.size≠w.heap.size+1+1;omega,by show w.heap.size+1≠w.heap.size+1+1;omega⟩,⟨by show w.heap.size<=w.heap.size+1+1+1;omega,zs _,by show w.heap.size<=w.heap.size+1;omega,by show w.heap.size<=w.heap.size+1+1;omega,(λx c h=>by cases h)⟩,(λx c h=>by cases h),(λl x h=>by cases h),λ_=>ab8,⟨AG,AG⟩,by show 0<=100000;omega⟩
def Afm(ap u:Nat)(w:Aj):AC 81 #[.pointer ap,.pointer u] w (Afp ap u w):=by have E:∀W:Aj,(binOp .eql 169 (.pointer ap) (.pointer none)).run prog W=.ok false W:=λ_=>AJ;have H:∀W:Aj,(binOp .eql 163 (.pointer u) (.pointer none)).run prog W=.ok false W:=λ_=>AJ;have J:=λ(W:Aj)=>IU (P:=prog) 244 W;have O:=λ(W:Aj)=>IU (P:=prog) 190 W;have T:=λ(W:Aj)=>IU (P:=prog) 174 W;go_enter func81,ntmps81;go_wp2;go_ret;refine⟨⟨w+1+1+1,w,w+1,w+1+1,AI,λ_=>0,λ_=>AI,λ_=>AI⟩,rfl,AbZ w ap u,by grind,λb hb=>?_⟩;rcases hb with h|h|h|h|h|⟨x,c,h,_⟩|⟨l,h⟩;rw[h];show w.heap.size<=w.heap.size+1+1+1;omega;rw[h];exact zs _;rw[h];show w.heap.size<=w.heap.size+1;omega;rw[h];show w.heap.size<=w.heap.size+1+1;omega;cases h;cases h;cases h
theorem Acq{l}(V:Go.Proofs.YtdmempceikifeaaGreat.Good l){zb:Nat}(ab:zb<=100000){x}(E:x∈l)(Z:AV x zb=0):Ch (ES l zb) x=true:=by
 obtain⟨ac,ad,ae,af,ag,aa⟩:=AU Z;have key:∀k,k<zb->(ES l zb)[k]? =some (BK l ((k:Int)+1)==1):=λk u=>by unfold ES;rw[yd,aal u];rfl
 obtain⟨k,u⟩:∃k:Nat,Ak x=(k:Int)+1:=⟨(Ak x-1).toNat,Ad⟩;have O:k<zb:=Ad;have T:Ak ((k:Int)+1)≠0:=PF Ad;unfold Ch Ku FI;have U:Ak x≠0:=Ad;rcases aa with e|e;have H:BK l ((k:Int)+1)=1:=by unfold BK;rw[zo T,zq (CD.2 (by rw[<-u,e];exact E))]
 have J:(ES l zb).getD (Ak x-1).toNat false=true:=by rw[u,show((k:Int)+1-1).toNat=k by omega,yc,key k O,H];rfl
 rw[J,IM,zt U,zt (show Ak x<=(zb:Int)by omega),zt (show 0<x by omega),zt (show x<=100000 by omega)];rfl;have ah:=λh=>V.neg h E;have H:BK l ((k:Int)+1)=-1:=by unfold BK;rw[zo T,zo (by rw[CD,<-u,e];omega),zq (CD.2 (by rw[<-u,e,aaa];exact E))]
 have J:(ES l zb).getD (Ak x-1).toNat false=false:=by rw[u,show((k:Int)+1-1).toNat=k by omega,yc,key k O,H];rfl
 rw[J,zt U,zn (show¬0<x by omega),Bool.and_false,ac7];rfl
def Vh{R}{zb:Nat}{L}(T:zb<=100000)(U:Go.Proofs.YtdmempceikifeaaGreat.Good (Az R))(u:∀v:Int,1<=v->v<=zb->v∈Az R\/ -v∈Az R) (E:∀c∈L,Calm R c/\∀x∈c,AV x zb=0):Db L (ES (Az R) zb)<0:=by rw[IX];intro c H;obtain⟨J,O⟩:=E c H;obtain⟨x,V,Z⟩:=Yb u J O;grind[CF,List.any_eq_true,Acq]
def AdJ{R}{zb:Nat}(T:(R.map λr=>Ak r.lit).Nodup)(J:∀r∈R,AV r.lit zb=0)(V:zb<=R.length):∀v:Int,1<=v->v<=zb->v∈Az R\/ -v∈Az R:=by
 intro v Z aa;by_cases O:v∈R.map λr=>Ak r.lit;obtain⟨r,E,e⟩:=zw.1 O;obtain⟨_,_,_,_,_,g⟩:=AU (J r E);have ab:r.lit∈Az R:=zw.2 ⟨r,E,rfl⟩;grind;exfalso;have U:∀u∈v::R.map (λr=>Ak r.lit),u∈(List.range zb).map λi=>((i+1:Nat):Int):=λu H=>by
  have:1<=u/\u<=zb:=by rcases xl.1 H with rfl|H;omega;obtain⟨r,E,rfl⟩:=zw.1 H;have:=AU (J r E);omega
  exact zw.2 ⟨(u-1).toNat,zv.2 Ad,Ad⟩
 have:=Il (xx.2 ⟨O,T⟩) U;grind
def SQ{R cl d x c}(h:Bq R cl d)(T:cl x=some c)(ac:0<=x)(U:D7 R x c=false):∀s∈R,s.reason≠x:=by intro s u e;obtain⟨i,hi⟩:=z0 u;obtain⟨c',H,V⟩:=h.aY i s hi Ad;rw[e,T]at H;cases H;obtain⟨y,J,Z,_⟩:=V;rw[Co hi]at J;cases J;have aa:=(Kt h.aE).2 (zw.2 ⟨s,u,rfl⟩);have ab:=(Dx h.aj hi).2;have O:D7 R x c=true:=y7.2 ⟨s.lit,Z,by rw[aa,ab,e];simp⟩;rw[U]at O;cases O
section
variable{L}{n}{E}
structure JL(L)(n)(E:Cv)(g:An)(j)(A)(W):Prop where
 inv:C0 L n {E with A:=A,W:=W}
 find:∀z,z∉g.take j->A.rows.find? (BR z)=E.A.rows.find? (BR z)
 live:Bv A.rows=CQ (Bv E.A.rows) ((g.take j).map (Bb E.A.rows))
 len:(Bv A.rows).length+j<=(Bv E.A.rows).length/\A.rows.length=E.A.rows.length
theorem Su{S x r}(h:Ga (Bv S.rows))(u:S.rows.find? (BR x)=some r):(Bv (Ds S x).rows).length<(Bv S.rows).length:=by obtain⟨k,O,H,_,J⟩:=FQ u;rw[Mx h u];unfold CQ;rw[List.length_filter_lt_length_iff_exists];exact⟨(r.id,r.lits),KZ.2 ⟨r,zm H,J,rfl,rfl⟩,by simp[Bd]⟩
theorem JL.zero(h:C0 L n E)(g):JL L n E g 0 E.A E.W:=⟨h,λ_ _=>rfl,by show Bv E.A.rows=(Bv E.A.rows).filter λp=>!Bd [] p.1;rw[x9.2];intro p _;rfl,AG⟩
theorem JL.fresh{g j A W}(h:JL L n E g j A W)(H:g.Nodup){x}(J:g[j]? =some x):A.rows.find? (BR x)=E.A.rows.find? (BR x):=by
 have u:x∉g.take j:=λO=>by grind[List.getElem?_of_mem,List.getElem_inj,List.getElem?_eq_some_iff]
 exact h.find x u
theorem JL.step{g j A W W'}(h:JL L n E g j A W)(U:g.Nodup){x}(J:g[j]? =some x)(u:CU E.A.rows x=true)(V:∀s∈E.R,s.reason≠x) (Z:CG (Ds A x))(aa:∀z,W'.af z=if z=x then none else W.af z)(ab:CK E.seen W'):JL L n E g (j+1) (Ds A x) W':=by
 have H:=h.fresh U J;unfold CU at u;cases O:E.A.rows.find? (BR x)with
 |none=>rw[O]at u;cases u
 |some r=> rw[O]at u H;have u:=u;have ac:=FQ H;obtain⟨k,ad,ae,_,ah⟩:=ac;have af:=Mx h.inv.bj H;refine⟨h.inv.drop H u V Z aa ab,λz T=>?_,?_,?_,?_⟩;rw[AM J]at T;rw[RS h.inv.aS H,zo (λe=>T (by simp[e])),h.find z (λag=>T (yp _ ag))];rw[af,h.live,Vy,AM J,yo];show _=CQ _ (_++[Bb E.A.rows x]);rw[F5 O];have aj:=h.len.1;have ak:(Bv (Ds A x).rows).length<(Bv A.rows).length:=Su h.inv.bj H;omega;rw[(JT ad ae H).1,xj];exact h.len.2
theorem JL.done{X g A W}(h:JL L n E g g.length A W)(u:CC L n E X)(H:g.Nodup)(J:∀x∈g,∃c,AY E.A.rows x=some c)(O:g.length<=1000)(V:X.conflict<0)(T:X.calm=false):CC L n {E with A:=A,W:=W,P:=E.P++[⟨2,E.id,[],g.map (Bb E.A.rows)⟩]} X:=by have hi:=h.inv;have U:=Vz u.inv u.told H J O (by have:=h.live;rwa[x0]at this);refine⟨⟨hi.az,hi.ah,hi.bX,hi.aS,hi.cls,hi.len,hi.af,hi.aG,hi.calm,hi.bj,hi.num,hi.given,hi.free⟩,U,u.cB,u.cm,?_,λe=>?_,λe=>?_,u.c3,u.cW⟩;show X.aJ=((E.P++[(⟨2,E.id,[],g.map (Bb E.A.rows)⟩:Cz)]).foldl BU (BG L)).done;rw[xr];show X.aJ=(BU (E.P.foldl BU (BG L)) ⟨2,E.id,[],g.map (Bb E.A.rows)⟩).done;exact u.aJ;have e':=e;omega;have e':=e;rw[T]at e';cases e'
end
def GD(n u c Fv:Int)(R:Nat):Nat:=(u-c).toNat*(2*(n+1)).toNat+(if Fv<=c then(n+1).toNat else 0)+(n-R).toNat
def Ud{n u c Fv R R'}(H:0<=n)(hb:c<u):GD n u (c+1) Fv R'<GD n u c Fv R:=by unfold GD;have e:(u-c).toNat=(u-(c+1)).toNat+1:=Ad;rw[e,adw,Nat.one_mul];generalize(u-(c+1)).toNat*(2*(n+1)).toNat=m;(repeat' split)<;>omega
def TI{n u c Fv H R R'}(J:0<=n)(h:Fv<=c)(O:c<H):GD n u c H R'<GD n u c Fv R:=by unfold GD;rw[zq h,zo Ad];omega
def VY{n u c Fv:Int}{R R':Nat}(h:R<R')(H:R<n):GD n u c Fv R'<GD n u c Fv R:=by grind[GD]
