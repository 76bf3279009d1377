import Derived.Test.YtdmempceikifeaaGreatA04
import Derived.Outline
import Derived.RegionTactic
set_option maxRecDepth 100000
set_option maxHeartbeats 16000000
set_option linter.all false
namespace Go.Proofs.YtdmempceikifeaaGreat
open Go.RowKit Tryz
section
variable{w w':World}{p gs gp:Nat}{rv:Value}{zb:Nat}{sc pl:Nat->Int}{ze:List Int}
theorem Mc{H:Aj}{rv1:Aw}{row1:An}(h:BO w p gs gp rv zb sc pl ze)(E:w.grownBy H rv.ownBlock)(V:Ay H 0 rv1 row1)(u:rv1.ownBlock=rv.ownBlock\/∀k,rv1.ownBlock=some k->w<=k)(Z:row1.length<=901)(hb:∀x∈row1,0<=x/\x<=1000):CY w (H.setCell ⟨p,1,none⟩ rv1) p gs gp rv zb sc pl row1:=by
 obtain⟨aa,J,ab⟩:=h.bW;obtain⟨ac,O,ad⟩:=h.bL;have U:rv.ownBlock≠some p:=h.own.ai h.J Ax;have ae:p≠gs:=h.J.aU J Ax;have T:∀g,g<w.heap.size->rv.ownBlock≠some g->rv1.ownBlock≠some g:=λg E af e=>by rcases u with u|u;exact af (u▸e);have:=u g e;omega
 refine⟨rv1,⟨(h.J.grown E (yb U)).ad 1 rv1,⟨aa,(J.grown E (yb h.bS)).ar (p:=⟨p,1,none⟩) (yb ae) _,ab⟩,⟨ac,(O.grown E (yb h.bH)).ar (p:=⟨p,1,none⟩) (yb (h.J.aU O (by decide))) _,ad⟩,V.setCell (p:=⟨p,1,none⟩) (λk e g=>by subst g;exact T _ h.J.lt U e) _,h.aA,h.bO,h.cG,h.ne,T _ J.lt h.bS,T _ O.lt h.bH,Z,hb⟩,?_,λb hb=>?_⟩;exact((Au.refl _ w).grown E (λk e=>.inl (.inr (.inr (.inr e))))).setCell (.inl (.inl rfl)) _;rcases hb with hb|hb|hb|hb;exact .inl (.inl hb);exact .inl (.inr (.inl hb));exact .inl (.inr (.inr (.inl hb)));rcases u with u|u;exact .inl (.inr (.inr (.inr (u▸hb))));exact .inr (u b hb)
theorem CY.eE{u:Aj}(E:Ae w u)(k:CY u w' p gs gp rv zb sc pl ze):CY w w' p gs gp rv zb sc pl ze:=by obtain⟨rv',a,b,c⟩:=k;exact⟨rv',a,Au.ay E b,λb' hb=>(c b' hb).imp id (λg=>z7 E.size_le g)⟩
theorem Afu(w:Aj)(v:Nat)(h:KN w p gs gp rv zb ze)(af:1<=v)(ag:v<=zb)(O:(v:Int)∉ze):AC 241 #[.pointer p,v] w (ZF p gs gp rv zb (ze++[(v:Int)]) w):=by
 obtain⟨sc,pl,u,T,ah⟩:=h;have aJ:=T.len;obtain⟨A,n,c,rfl⟩:=u.own.form;have aj:=u.own.aL;subst aj;have Z:=u.J.cell 0;have ak:=u.J.cell 1;have f1:=u.J.frozen 1;have aK:=u.aA;have al:(1:Int)<=(v:Int):=Ad;have am:(v:Int)<=(zb:Int):=Ad;have aL:=zn O;have an:=T.put (v:=(v:Int)) Ad Ad O;have E:=u;have aM:=u.J.lt;clear u O;go_enter func241,ntmps241;go_wp2_with fail
 refine(RB _ _ _ _ _ _ Z Ad al am).mono ?_;rintro e ao⟨rfl,rfl⟩;go_wp2_with fail
 refine(L9 _ v E T af ag).mono ?_;rintro e ao⟨rfl,rfl⟩;go_wp2_with(at_builtin;refine BW _ rfl (.tmp 19) (.tmp 21) rfl 0 _ ze rfl (E.own.alloc _) _ _ _ rfl (BD _ _ _) Ad Ad Ad ?_;intro aN aO J aa ab;obtain⟨aq,aP,au,rfl⟩:=J.form;have av:=(by have:=J.aL;simpa[Ve]using this);subst av;have U:=(E.J.alloc _).grown aa (yb (E.own.ai E.J Ax));have aw:=U.cell 1;have f3:=U.frozen 1;clear U;have ax:=J;have ay:=ab;clear J ab)
 have ac:=Mc (w:=w.alloc (.cells #[v] 3)) (rv1:=.slice aq (ze.length+1) au) (E.ext ((Ae.refl _).alloc _)) aa ax (ay.imp id (λe k V=>by rw[e]at V;injection V with V;omega)) Ca (λx H=>by rcases zz.1 H with H|H;exact E.cr x H;rw[zy.1 H];omega);have az:=CY.eE ((Ae.refl w).alloc _) ac;obtain⟨aQ,aA,ad,ae⟩:=az;clear ac aw f3 Z ak f1;refine(ZC _ ze.length v aA an (by rw[yi (zs _)];simp)).mono ?_;rintro e aR⟨aS,aB,rfl,⟨aC,aD,aE,aF⟩,aG,aH⟩;skip;go_wp2;go_ret;refine⟨aB,rfl,⟨aC,⟨_,_,aD,aG,ah⟩,ad.trans aE (λb hb aI=>(ae b aI).resolve_right Ad),λb hb=>(aF b hb).elim (ae b) (λg=>.inr (z7 ad.size g))⟩,aH⟩
theorem Ys{g n zh k v:Nat}(h:BO w p gs gp (.slice g n zh) zb sc pl ze)(O:k<=ze.length):
 BO ((w.setCell ⟨p,1,none⟩ (.slice g k zh)).setCell ⟨gp,v,none⟩ (.int .i64 (-1))) p gs gp (.slice g k zh) zb sc (F6 pl v (-1)) (ze.take k)/\
  Au (El p gs gp (.slice g n zh)) w ((w.setCell ⟨p,1,none⟩ (.slice g k zh)).setCell ⟨gp,v,none⟩ (.int .i64 (-1))):=by
 obtain⟨T,E,U⟩:=h.bW
 obtain⟨ad,H,V⟩:=h.bL
 have Z:g≠p:=λe=>h.own.ai h.J Ax (by rw[e];rfl)
 have aa:g≠gp:=λe=>h.bH (by rw[e];rfl)
 have J:=h.J.aU H Ax
 refine⟨⟨(h.J.ad 1 _).ar (p:=⟨gp,v,none⟩) J _,⟨T,(E.ar (p:=⟨p,1,none⟩) (yb (h.J.aU E Ax)) _).ar (p:=⟨gp,v,none⟩) h.ne _,U⟩,⟨_,(H.ar (p:=⟨p,1,none⟩) (yb J) _).ad v _,V.set v (-1)⟩,
  ((h.own.cut O).setCell (p:=⟨p,1,none⟩) (λb e=>by cases e;exact Z) _).setCell (p:=⟨gp,v,none⟩) (λb e=>by cases e;exact aa) _,h.aA,h.bO,λu ab=>?_,h.ne,h.bS,h.bH,?_,λx ac=>h.cr x (xh ac)⟩,?_⟩
 by_cases e:u=v
 subst e;rw[Fp];omega
 rw[Eb _ _ e];exact h.cG u ab
 have:=h.bx
 rw[ya];omega
 exact((Au.refl _ w).setCell (.inl (.inl rfl)) _).setCell (.inl (.inr (.inr (.inl rfl)))) _
def AgM(p gs gp:Nat)(rv:Aw)(zb:Nat)(ze:An)(w:Aj)(e:Bz)(w':Aj):Prop:=∃v:Nat,e=.returned v/\(v:Int)∈ze/\∃row',Adu w w' p gs gp rv zb row'/\(v:Int)∉row'/\(∀u,u∈ze->u=v\/u∈row')/\∀u∈row',u∈ze
theorem Acz(w:Aj)(h:KN w p gs gp rv zb ze)(aj:ze≠[]):AC 165 #[.pointer p] w (AgM p gs gp rv zb ze w):=by
 obtain⟨sc,pl,T,U,av⟩:=h;have aD:=U.len;obtain⟨k,V⟩:∃k,ze.length=k+1:=⟨ze.length-1,by
  cases ze with
  |nil=>exact absurd rfl aj
  |cons a t=>simp⟩
 obtain⟨g,zh,ak,aE,aZ,a1,a5,aw,aF⟩:=T.full aj;obtain⟨v0,ae⟩:∃v0,ze[0]? =some v0:=⟨_,zr Ad⟩;obtain⟨af,Z⟩:∃af,ze[k]? =some af:=⟨_,zr Ad⟩;obtain⟨v1,aG⟩:=U.aN v0 (zm ae);obtain⟨v,rfl⟩:=y1 (show 0<=v0 by omega);obtain⟨aH,aI⟩:=U.aN af (zm Z);obtain⟨x,rfl⟩:=y1 (show 0<=af by omega);have aJ:x<=zb:=Ad;have aK:v<=zb:=Ad;have a6:=T.aA;have ax:=T.J.cell 1;rw[ak,V]at ax;have d1:=aw k _ Z;have a7:((v:Int)==0)=false:=yv.2 Ad;have H:=U.take V ae Z;simp only[Int.toNat_natCast]at H;have al:=zk ae;have a8:=zk ak;have ay:=zk Z;have a9:(0:Int)<=(k:Int):=Ad;have ba:(k:Int)<(k:Int)+1:=Ad;have bc:(k:Int)<=1000:=Ad;have az:=zk V;rw[V]at aE;clear U ae aw aF aj ak Z V aD v1 aG aH aI;go_enter func165,ntmps165;go_wp2_with fail
 refine(Adf _ _ T al).mono ?_;rintro e bd⟨rfl,rfl⟩;go_wp2_with fail
 refine(Je _ 0 x T (by rw[az.out];omega) aJ).mono ?_;rintro e w2⟨rfl,be,J,am,ag⟩;have O:(ze.set 0 (x:Int)).length=k+1:=by rw[xj];exact az
 obtain⟨aA,an,aa,aL,bf,bh,bi,aM,aN⟩:=J.full (λe=>by rw[e]at O;simp at O);have aO:=J.J.cell 1;have bj:=J.J.cell 2;have f2:=J.J.frozen 1;rw[aa,O]at aO;rw[O]at aL;obtain⟨bk,ao,aP⟩:=J.bL;have bn:=ao.frozen v;have br:=J.cI aK;have aQ:p≠gp:=J.J.aU ao Ax;have bt:gp≠p:=yb aQ;have bu:(0:Int)<=(v:Int):=Ad;have bw:(v:Int)<(zb:Int)+1:=Ad;have bx:(k:Int)<=(an:Int):=Ad;have aB:=zk O;clear ao aP aM aN ax d1 O;have aq:=Ys (k:=k) (v:=v) (aa▸J:BO w2 p gs gp (.slice aA (ze.set 0 (x:Int)).length an) zb sc (F6 pl x 0) (ze.set 0 (x:Int))) (by rw[aB.out];omega);rw[<-aa]at aq;have ab:=aq;have aC:=zk aa;clear aa aq;by_cases bz:0<k;obtain⟨u0,ah⟩:∃u0,((ze.set 0 (x:Int)).take k)[0]? =some u0:=⟨_,zr (by rw[ya,aB.out];omega)⟩;obtain⟨u1,u2⟩:=H.1.aN u0 (zm ah);obtain⟨u,rfl⟩:=y1 (show 0<=u0 by omega);have aR:=H.1.hole ah;have aS:=zk ah;clear ah u1 u2;go_wp2_with fail
 refine(TY _ 0 u ab.1 aR aS).mono ?_;rintro e bA⟨bB,aT,rfl,⟨aU,aV,aW,aX⟩,aY,au⟩;skip;go_wp2;go_ret;have hF:∀b,El p gs gp (.slice aA k an) b->El p gs gp rv b\/w<=b:=λb hb=>ag b (by rw[aC.out];exact hb);refine⟨v,rfl,zm al,aT,⟨aU,⟨_,_,aV,aY,av⟩,?_,?_⟩,λE=>H.2.1 (au.mem_iff.1 E),λu ac=>(H.2.2 u ac).imp id (λg=>au.mem_iff.2 g),λu ac=>?_⟩;refine(am.trans ab.2 (λb hb ad=>(ag b ad).resolve_right Ad)).trans aW (λb hb ad=>(hF b ad).resolve_right Ad);intro b hb;rcases aX b hb with g|g;exact hF b g;exact .inr (z7 am.size (z7 ab.2.size g));have E:=xh (au.mem_iff.1 ac);rcases aav E with E|rfl;exact E;exact zm ay;go_wp2;go_ret;refine⟨v,rfl,zm al,_,⟨_,⟨_,_,ab.1,H.1,av⟩,?_,λb hb=>ag b (by rw[aC.out];exact hb)⟩,H.2.1,H.2.2,λu ac=>?_⟩;exact am.trans ab.2 (λb hb ad=>(ag b ad).resolve_right Ad);have E:=xh ac;rcases aav E with E|rfl;exact E;exact zm ay
end
def DQ(n:Nat):An:=(List.range n).map λk=>((k+1:Nat):Int)
def OL(n:Nat):DQ (n+1)=DQ n++[((n+1:Nat):Int)]:=by unfold DQ;rw[xi,yo];rfl
def Hq(n:Nat):(DQ n).length=n:=by simp[DQ]
def Hc{n:Nat}{x:Int}:x∈DQ n↔1<=x/\x<=n:=by unfold DQ;rw[zw];constructor;rintro⟨k,u,rfl⟩;rw[zv]at u;omega;rintro⟨E,H⟩;exact⟨(x-1).toNat,by rw[zv];omega,Ad⟩
def M7(k:Nat):Nat->Int:=λu=>if 1<=u/\u<=k then(u:Int)-1 else 0
def U3(k:Nat):F6 (M7 k) (k+1) k=M7 (k+1):=by funext u;unfold F6 M7;by_cases e:u=k+1;subst e;rw[zq rfl,zq Ad];omega;rw[zo e];by_cases h:1<=u/\u<=k;rw[zq h,zq Ad];rw[zo h,zo Ad]
def U1(n:Nat):Ot (madeCells #[Value.int IntKind.i64 0] (n+1)) n λ_=>0:=by refine⟨size_madeCells _ _,λv u=>?_⟩;unfold madeCells;rw[ad1,adp,zq Ad];simp[adv]
def W9{W:Aj}{p gs gp zb:Nat}(hb:Aq W p 240 #[.slice gs (zb+1) (zb+1),AI,.slice gp (zb+1) (zb+1)]) (E:Aq W gs 3 (madeCells #[Value.int IntKind.i64 0] (zb+1)))(H:Aq W gp 3 (madeCells #[Value.int IntKind.i64 0] (zb+1)))(J:gs≠gp)(O:zb<=900):BO W p gs gp AI zb (λ_=>0) (M7 0) []:=by
 have e:M7 0=λ_=>0:=by funext u;unfold M7;rw[zo Ad]
 rw[e];exact⟨hb,⟨_,E,U1 zb⟩,⟨_,H,U1 zb⟩,Ay.nil _ _,O,λ_ _=>Ad,λ_ _=>Ad,J,by simp[Value.ownBlock],by simp[Value.ownBlock],AG,AG⟩
def Aq.dA(W:Aj)(a b:Obj)(t:TypeId)(u:Ck):Aq (((W.alloc a).alloc b).alloc (.cells u t)) (W+1+1) t u:=by have:=Aq.new ((W.alloc a).alloc b) t u;simpa using this
def Aq.b0(W:Aj)(a:Obj)(t:TypeId)(u:Ck):Aq ((W.alloc a).alloc (.cells u t)) (W+1) t u:=by have:=Aq.new (W.alloc a) t u;simpa using this
def Aq.ck{w:Aj}{g:Nat}{t:TypeId}{u:Ck}(h:Aq w g t u):Aq w.drew g t u:=h
section
variable{w w':World}{p gs gp:Nat}{rv:Value}{zb:Nat}{sc pl:Nat->Int}{ze:List Int}
theorem OI(h:BO w p gs gp rv zb sc pl ze)(v:Nat){x:Int}(H:-1<=x/\x<=1000):BO (w.setCell ⟨gp,v,none⟩ x) p gs gp rv zb sc (F6 pl v x) ze:=by obtain⟨J,O,T⟩:=h.bW;obtain⟨Z,E,U⟩:=h.bL;refine⟨h.J.ar (p:=⟨gp,v,none⟩) (h.J.aU E Ax) _,⟨J,O.ar (p:=⟨gp,v,none⟩) h.ne _,T⟩,⟨_,E.ad v _,U.set v x⟩,h.own.setCell (p:=⟨gp,v,none⟩) (λk e g=>by subst g;exact h.bH e) _,h.aA,h.bO,λu V=>?_,h.ne,h.bS,h.bH,h.bx,h.cr⟩;by_cases e:u=v;subst e;rw[Fp];exact H;rw[Eb _ _ e];exact h.cG u V
end
def AdY(zb:Nat)(w:Aj)(e:Bz)(w':Aj):Prop:=∃(p gs gp:Nat)(rv:Aw),e=.returned (.tuple #[.pointer p,()])/\KN w' p gs gp rv zb (DQ zb)/\Ae w w'/\∀b,El p gs gp rv b->w<=b
def Ab8(zb:Nat):Dm (M7 zb) zb (DQ zb):=by refine⟨?_,λu H=>Hc.1 H,λj u E=>?_,λu O J H=>absurd (Hc.2 ⟨Ad,Ad⟩) H⟩;unfold DQ;exact x2.2 (aba.imp λT e=>T Ad);have V:=Hc.1 (zm E);unfold DQ at E;rw[yd,aae]at E;obtain⟨k,U,rfl⟩:=E;obtain⟨O,J⟩:=zl.1 U;rw[ady]at J;subst J;unfold M7;rw[zq Ad];omega
def Af0(zb:Nat)(w:Aj)(aK:zb<=900):AC 78 #[zb] w (AdY zb w):=by
 have a1:(0:Int)<=(zb:Int):=Ad;have a5:(zb:Int)<=900:=Ad;have a6:decide ((zb:Int)<0)=false:=zn Ad;have a7:decide (100000<(zb:Int))=false:=zn Ad;obtain⟨aO,hi,aL,aM,aN⟩:=info_parts Jr;have a8:∀W,(Instr.makeSlice 86 (.int .i64 ((zb:Int)+1)) (.int .i64 ((zb:Int)+1))).run prog W=.ok (.slice W (zb+1) (zb+1)) (W.alloc (.cells (madeCells #[()] (zb+1)) 3)):=λW=>by have:=Ci (P:=prog) 86 3 aO _ underlying86 hi aL .i64 .i64 (zb+1) (zb+1) (zs _) (by rw[aN];omega) Ad W;rw[aM,abc]at this;exact this
 clear hi aL aM aN;go_enter func78,ntmps78;go_wp2;go_region
 . obtain⟨gs,gp,Z,H,aj⟩:∃gs gp,w.heap.size<=gs/\w.heap.size<=gp/\BO (((w.alloc (Obj.cells (madeCells #[Value.int IntKind.i64 0] (zb+1)) 3)).alloc (Obj.cells (madeCells #[Value.int IntKind.i64 0] (zb+1)) 3)).alloc (Obj.cells #[Value.slice (some {block:=w,off:=0}) (zb+1) (zb+1),Value.slice none 0 0,Value.slice (some {block:=w+1,off:=0}) (zb+1) (zb+1)] 240)).drew (w+1+1) gs gp AI zb (λ_=>0) (M7 0) []:=⟨w.heap.size,w.heap.size+1,by omega,by omega,W9 (Aq.ck (Aq.dA w _ _ _ _)) (Aq.ck (((Aq.new w _ _).alloc _).alloc _)) (Aq.ck ((Aq.b0 w _ _ _).alloc _)) (by omega) aK⟩;have ak:Ae w (((w.alloc (Obj.cells (madeCells #[Value.int IntKind.i64 0] (zb+1)) 3)).alloc (Obj.cells (madeCells #[Value.int IntKind.i64 0] (zb+1)) 3)).alloc (Obj.cells #[Value.slice (some {block:=w,off:=0}) (zb+1) (zb+1),Value.slice none 0 0,Value.slice (some {block:=w+1,off:=0}) (zb+1) (zb+1)] 240)).drew:=by grind
   skip;go_wp2;go_loopw[5](λi wr=>∃k:Nat,i=.int .i64 ((k:Int)+1)/\k<=zb/\∃rv,BO wr (w+1+1) gs gp rv zb (λ_=>0) (M7 k) (DQ k)/\Ae w wr/\∀b,rv.ownBlock=some b->w<=b)(λi _=>zb+1-(intOf i).toNat);case atStart=>exact⟨0,rfl,Ad,_,aj,ak,λb e=>by cases e⟩
   case round=>
    obtain⟨k,rfl,E,rv,u,J,O⟩:=hrel;obtain⟨A,n,c,rfl⟩:=u.own.form;have al:n=k:=by have:=u.own.aL;rw[Hq]at this;exact this
    subst al;by_cases aa:n<zb
    . have aP:(0:Int)<=(n:Int)+1:=Ad;have aQ:(n:Int)+1<(zb:Int)+1:=Ad;have aR:(n:Int)+1<=(zb:Int):=Ad;obtain⟨aS,ab,am⟩:=u.bL;have aT:=u.J.cell 1;have aU:=u.J.cell 2;have aV:=ab.frozen (n+1);have aW:=u.cI (v:=n+1) Ad;have aX:w+1+1≠gp:=u.J.aU ab Ax;have T:=OI u (n+1) (x:=(n:Int)) Ad;rw[U3]at T;have ae:Ae w (wr.setCell ⟨gp,n+1,none⟩ n):=J.setCell (p:=⟨gp,n+1,none⟩) H _;have af:(((wr.setCell ⟨gp,n+1,none⟩ n).alloc (.cells #[.int .i64 ((n:Int)+1)] 3)).drew).cell? wr=some (.int .i64 ((n:Int)+1)):=by have:=BD (wr.setCell ⟨gp,n+1,none⟩ n) (.int .i64 ((n:Int)+1)) 3;rw[xf]at this;exact this
      have an:=zk af;clear af;have ao:=Aq.ck (Aq.alloc T.J (.cells #[.int .i64 ((n:Int)+1)] 3));have U:=T;have V:=O;have aq:=zk aa;clear u J O ab am T E aa;go_wp2;go_region
      go_wp2_with(at_builtin;(refine BW _ rfl (.tmp 40) (.tmp 42) rfl 0 _ (DQ n) rfl ((U.own.alloc _).ext ((Ae.refl _).drew)) _ _ _ rfl an.out Ad (by rw[Hq];omega) Ad ?_);intro aY aZ ac ag ah;obtain⟨au,av,aw,rfl⟩:=ac.form;have ad:=Aq.grown ao ag (yb (U.own.ai U.J Ax));have ax:=ad.cell 1;have f3:=ad.frozen 1;clear ad;have ay:=ac;have az:=zk ah;clear ac ah)
      have aA:=Mc (rv1:=.slice au av aw) (row1:=DQ (n+1)) ((U.ext ((Ae.refl _).alloc _)).ext ((Ae.refl _).drew)) ag (by rw[OL];exact ay) (az.imp id (λe k E=>by rw[e]at E;injection E with E;exact aa6 E)) (by rw[Hq];omega) (λx aB=>by have:=Hc.1 aB;omega);obtain⟨aC,aD,aE,aF⟩:=aA;clear ax f3;go_roundw;case rel=> refine⟨n+1,by go_num,by have:=aq.out;omega,aC,aD,?_,λb hb=>?_⟩;have aG:Ae w (((wr.setCell ⟨gp,n+1,none⟩ n).alloc (.cells #[.int .i64 ((n:Int)+1)] 3)).drew):=(ae.alloc _).drew;refine(Ae.stay (F:=El (w+1+1) gs gp (Value.slice A n c)) aG|>.trans aE (λb hb aH=>?_)).ext (λb hb=>?_);exact aH;rcases hb with rfl|rfl|rfl|hb;omega;exact Z;exact H;exact V b hb;rcases aF b (.inr (.inr (.inr hb)))with g|g;rcases g with rfl|rfl|rfl|g;omega;exact Z;exact H;exact V b g;have:=ae.size_le;simp at g this;omega
      case measure=>simp[intOf];omega
    . obtain rfl:n=zb:=Ad;have aI:=zk u;have aJ:=zk J;have V:=O;clear u J O aa E;go_wp2;go_ret2;refine⟨_,gs,gp,_,rfl,⟨_,_,aI,Ab8 _,λ_ _=>Ad⟩,aJ,λb hb=>?_⟩;rcases hb with rfl|rfl|rfl|hb;omega;exact Z;exact H;exact V b hb
 . obtain⟨gs,gp,Z,H,aj⟩:∃gs gp,w.heap.size<=gs/\w.heap.size<=gp/\BO (((w.alloc (Obj.cells (madeCells #[Value.int IntKind.i64 0] (zb+1)) 3)).alloc (Obj.cells (madeCells #[Value.int IntKind.i64 0] (zb+1)) 3)).alloc (Obj.cells #[Value.slice (some {block:=w+1,off:=0}) (zb+1) (zb+1),Value.slice none 0 0,Value.slice (some {block:=w,off:=0}) (zb+1) (zb+1)] 240)).drew (w+1+1) gs gp AI zb (λ_=>0) (M7 0) []:=⟨w.heap.size+1,w.heap.size,by omega,by omega,W9 (Aq.ck (Aq.dA w _ _ _ _)) (Aq.ck ((Aq.b0 w _ _ _).alloc _)) (Aq.ck (((Aq.new w _ _).alloc _).alloc _)) (by omega) aK⟩;have ak:Ae w (((w.alloc (Obj.cells (madeCells #[Value.int IntKind.i64 0] (zb+1)) 3)).alloc (Obj.cells (madeCells #[Value.int IntKind.i64 0] (zb+1)) 3)).alloc (Obj.cells #[Value.slice (some {block:=w+1,off:=0}) (zb+1) (zb+1),Value.slice none 0 0,Value.slice (some {block:=w,off:=0}) (zb+1) (zb+1)] 240)).drew:=by grind
   skip;go_wp2;go_loopw[5](λi wr=>∃k:Nat,i=.int .i64 ((k:Int)+1)/\k<=zb/\∃rv,BO wr (w+1+1) gs gp rv zb (λ_=>0) (M7 k) (DQ k)/\Ae w wr/\∀b,rv.ownBlock=some b->w<=b)(λi _=>zb+1-(intOf i).toNat);case atStart=>exact⟨0,rfl,Ad,_,aj,ak,λb e=>by cases e⟩
   case round=>
    obtain⟨k,rfl,E,rv,u,J,O⟩:=hrel;obtain⟨A,n,c,rfl⟩:=u.own.form;have al:n=k:=by have:=u.own.aL;rw[Hq]at this;exact this
    subst al;by_cases aa:n<zb
    . have aP:(0:Int)<=(n:Int)+1:=Ad;have aQ:(n:Int)+1<(zb:Int)+1:=Ad;have aR:(n:Int)+1<=(zb:Int):=Ad;obtain⟨aS,ab,am⟩:=u.bL;have aT:=u.J.cell 1;have aU:=u.J.cell 2;have aV:=ab.frozen (n+1);have aW:=u.cI (v:=n+1) Ad;have aX:w+1+1≠gp:=u.J.aU ab Ax;have T:=OI u (n+1) (x:=(n:Int)) Ad;rw[U3]at T;have ae:Ae w (wr.setCell ⟨gp,n+1,none⟩ n):=J.setCell (p:=⟨gp,n+1,none⟩) H _;have af:(((wr.setCell ⟨gp,n+1,none⟩ n).alloc (.cells #[.int .i64 ((n:Int)+1)] 3)).drew).cell? wr=some (.int .i64 ((n:Int)+1)):=by have:=BD (wr.setCell ⟨gp,n+1,none⟩ n) (.int .i64 ((n:Int)+1)) 3;rw[xf]at this;exact this
      have an:=zk af;clear af;have ao:=Aq.ck (Aq.alloc T.J (.cells #[.int .i64 ((n:Int)+1)] 3));have U:=T;have V:=O;have aq:=zk aa;clear u J O ab am T E aa;go_wp2;go_region
      go_wp2_with(at_builtin;(refine BW _ rfl (.tmp 40) (.tmp 42) rfl 0 _ (DQ n) rfl ((U.own.alloc _).ext ((Ae.refl _).drew)) _ _ _ rfl an.out Ad (by rw[Hq];omega) Ad ?_);intro aY aZ ac ag ah;obtain⟨au,av,aw,rfl⟩:=ac.form;have ad:=Aq.grown ao ag (yb (U.own.ai U.J Ax));have ax:=ad.cell 1;have f3:=ad.frozen 1;clear ad;have ay:=ac;have az:=zk ah;clear ac ah)
      have aA:=Mc (rv1:=.slice au av aw) (row1:=DQ (n+1)) ((U.ext ((Ae.refl _).alloc _)).ext ((Ae.refl _).drew)) ag (by rw[OL];exact ay) (az.imp id (λe k E=>by rw[e]at E;injection E with E;exact aa6 E)) (by rw[Hq];omega) (λx aB=>by have:=Hc.1 aB;omega);obtain⟨aC,aD,aE,aF⟩:=aA;clear ax f3;go_roundw;case rel=> refine⟨n+1,by go_num,by have:=aq.out;omega,aC,aD,?_,λb hb=>?_⟩;have aG:Ae w (((wr.setCell ⟨gp,n+1,none⟩ n).alloc (.cells #[.int .i64 ((n:Int)+1)] 3)).drew):=(ae.alloc _).drew;refine(Ae.stay (F:=El (w+1+1) gs gp (Value.slice A n c)) aG|>.trans aE (λb hb aH=>?_)).ext (λb hb=>?_);exact aH;rcases hb with rfl|rfl|rfl|hb;omega;exact Z;exact H;exact V b hb;rcases aF b (.inr (.inr (.inr hb)))with g|g;rcases g with rfl|rfl|rfl|g;omega;exact Z;exact H;exact V b g;have:=ae.size_le;simp at g this;omega
      case measure=>simp[intOf];omega
    . obtain rfl:n=zb:=Ad;have aI:=zk u;have aJ:=zk J;have V:=O;clear u J O aa E;go_wp2;go_ret2;refine⟨_,gs,gp,_,rfl,⟨_,_,aI,Ab8 _,λ_ _=>Ad⟩,aJ,λb hb=>?_⟩;rcases hb with rfl|rfl|rfl|hb;omega;exact Z;exact H;exact V b hb
