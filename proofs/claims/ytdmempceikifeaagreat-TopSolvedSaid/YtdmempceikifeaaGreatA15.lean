import Derived.Test.YtdmempceikifeaaGreatA13
import Derived.Test.YtdmempceikifeaaGreatA14
set_option maxRecDepth 100000
set_option maxHeartbeats 16000000
set_option linter.all false
namespace Go.Proofs.YtdmempceikifeaaGreat
open Go.RowKit Tryz
def Aei(R:List AH)(cl:Int->Option An)(zd zi:An)(x:Int)(w:Aj)(e:Bz)(w':Aj):Prop:=∃(v:Aw)(M:Nat->Bool),e=.returned (.tuple #[v,true])/\Ay w' w v (FO R M x)/\Jf R cl zd M/\(∀y∈zi,y∈zd\/∃(j:Nat)(s:AH),M j=true/\R[j]? =some s/\s.lit=-y)/\Ae w w'
def AhQ(w:Aj)(ap u:Nat):Hb (((w.alloc (.map #[] 0)).alloc (.map #[] 0)).alloc (.cells #[.pointer ap,.pointer u,.map (some w),.map (some (w+1)),true] 318)) w (w+1+1) ap u w (w+1) (λ_=>false) λ_=>false:=⟨Aq.dA w _ _ _ _,((CE.made w).ext ((Ae.refl _).alloc _)).ext ((Ae.refl _).alloc _),by have:=(CE.made (w.alloc (.map #[] 0))).ext ((Ae.refl _).alloc (.cells #[.pointer ap,.pointer u,.map (some w),.map (some (w+1)),true] 318));rw[z3]at this;exact this,Ad,Ad,zs _,Ad⟩
def Hb.eS{w w':Aj}{B q ap H u E:Nat}{stop M J:Int->Bool}(h:Hb w B q ap H u E stop M)(T:CE w' u J)(O:w.grownBy w' (some u)):Hb w' B q ap H u E J M:=by exact⟨h.J.grown O (by simpa using yb (h.stops.ai h.J)),T,h.marks.keep (O.block E h.marks.lt (by simpa using yb h.ne)),h.ne,h.cO,h.aF,h.bu⟩
def E8(R:List AH)(M:Nat->Bool)(k:Nat):An:=((List.range k).filter M).map (λi=>match R[i]? with|some r=>r.reason|none=>0)
def SN{R:List AH}{M:Nat->Bool}{k:Nat}{r:AH}(h:R[k]? =some r):E8 R M (k+1)=E8 R M k++if M k then[r.reason]else[]:=by unfold E8;rw[xi,y5,yo];cases e:M k<;>simp[e,h]
def V2{R:List AH}{cl:Int->Option An}{d:Int}(H:Bq R cl d){stop:An}{M:Nat->Bool}(J:Jf R cl stop M){k:Nat}{r:AH}(h:R[k]? =some r):Bd (E8 R M k) r.reason=false:=by
 cases e:Bd (E8 R M k) r.reason with
 |false=>rfl
 |true=> exfalso;obtain⟨i,hi,u⟩:=zw.1 (CD.1 e);obtain⟨O,T⟩:=ye.1 hi;rw[zv]at O;obtain⟨s,_,E,U,_⟩:=J i T;rw[E]at u;have:=Xj H E h U u;omega
def OR{R:List AH}(u:∀r∈R,-1<=r.reason/\r.reason<=Bh){M:Nat->Bool}{k:Nat}:∀x∈E8 R M k,-9223372036854775808<=x/\x<=Bh:=by
 intro x E;obtain⟨i,_,rfl⟩:=zw.1 E;cases e:R[i]? with
 |none=>simp
 |some r=>have:=u r (zm e);dsimp only;omega
def NP(R:List AH)(M:Nat->Bool)(k:Nat):(E8 R M k).length<=k:=by unfold E8;rw[z2];have:=yl M (List.range k);simpa using this
def Ab5(w:Aj)(ay ap az:Nat)(aA:Aw)(aB:Nat)(S:Fb)(za p af:Nat)(lv ag:Aw)(zb:Nat)(R:List AH)(ah:An)(x:Int)(zi zd:An)(A:AD)(n c:Nat)(d:Int) (T:BL w ay ap az aA aB S)(aj:Bm w za p af lv ag zb R ah)(ak:Bq R (AY S.rows) d)(al:AY S.rows x=some zi)(bt:∀l∈zi,-l∈Az R)(bu:∀y∈zi,FU R (AY S.rows) zd y) (aC:AB w A n zd)(aU:∀l∈zd,-100000<=l/\l<=100000)(bw:zd.Nodup)(bx:(0:Int)∉zi)(bz:R.length<=100000)(am:∀r∈R,-1<=r.reason/\r.reason<=Bh):AC 149 #[.pointer ap,.pointer p,.slice A n c,x] w (Aei R (AY S.rows) zd zi x w):=by
 obtain⟨r,aV,aW,bA,bB,bC⟩:=EZ al;have hid:=F5 aV;have bD:=(T.inv.ok r aW).1.1;have bE:-9223372036854775808<=x/\x<=Bh:=by have:=KJ T.inv al;have cf:=T.inv.size;have aD:=T.len;omega
 have aX:(Bb S.rows x==0)=false:=yv.2 Ad;have cg:∀W:Aj,(binOp .eql 169 (.pointer ap) (.pointer none)).run prog W=.ok false W:=λ_=>AJ;have ch:∀W:Aj,(binOp .eql 163 (.pointer p) (.pointer none)).run prog W=.ok false W:=λ_=>AJ;have ci:=aC.1;have cj:=aC.len;have aY:=zk al;have bF:=zk aX;have cm:=@run_makeMap prog;have aZ:=AhQ w ap p;have a1:Ae w (((w.alloc (.map #[] 0)).alloc (.map #[] 0)).alloc (.cells #[.pointer ap,.pointer p,.map (some w),.map (some (w+1)),true] 318)):=by grind
 clear al aX aV aW bA bB bC hid bD;go_enter func149,ntmps149;go_wp2_with fail
 refine(Nw _ ay ap az aA aB S x T bE).mono ?_;rintro e cn⟨rfl,rfl⟩;have bG:=bF.out;generalize Bb S.rows x=z at bG;go_wp2;generalize bH:(((w.alloc (.map #[] 0)).alloc (.map #[] 0)).alloc (.cells #[.pointer ap,.pointer p,.map (some w),.map (some (w+1)),true] 318))=co at aZ a1⊢;clear bH;go_loopw[37](λi wr=>∃k:Nat,i=k/\k<=n/\Hb wr w (w+1+1) ap p w (w+1) (λy=>Bd (zd.take k) y) (λ_=>false)/\Ae w wr)(λi _=>n-(intOf i).toNat);case atStart=>exact⟨0,rfl,zx _,aZ,a1⟩
 case round=>
  obtain⟨k,rfl,bI,aa,an⟩:=hrel;skip;by_cases H:k<n;obtain⟨bJ,l,rfl,ab,bK,bL,bM⟩:=(aC.ext an).at_ H;have cp:=aU l (zm ab);have E:Bd (zd.take k) l=false:=by
   cases e:Bd (zd.take k) l with
   |false=>rfl
   |true=>
    exfalso;obtain⟨j,ao⟩:=z0 (CD.1 e);rw[xb]at ao;split at ao;have cq:j<k:=by assumption
    obtain⟨cr,a2⟩:=zl.1 ao;obtain⟨cs,bN⟩:=zl.1 ab;have:=(xz bw).1 (a2.trans bN.symm);omega;cases ao
  have hrun:=aa.stops.cA (x:=l) (by unfold Bj;omega) E;have ct:=aa.J.cell 2;have a5:=AM ab;have bO:=zk a5;have aq:=zk H;have bP:(0:Int)<=(k:Int):=Ad;have bQ:(k:Int)<(n:Int):=Ad;clear E a5;go_wp2_with(at_mapUpdate;refine JN _ rfl _ _ _ rfl w _ rfl aa.stops l rfl Ad true rfl ?_;intro cu bR a6;skip)
  go_roundw;case rel=>
   refine⟨k+1,by go_num,aq,?_,an.grown a6 (λb e=>by cases e;exact zs _)⟩;have aD:=aa.eS bR a6;have e:(λt=>if t=l then true else Bd (zd.take k) t)=λy=>Bd (zd.take (k+1)) y:=by funext t;rw[bO.out];unfold Bd;rw[abx];by_cases e:t=l;subst e;simp;rw[zo e];simp[yb e]
   rw[e]at aD;exact aD
  case measure=>simp[intOf];omega
  obtain rfl:k=n:=Ad;have aE:=aa;rw[z1 Ad]at aE;have bS:=aE;clear aE H;go_wp2_with fail
  refine(AaX w ay ap az aA aB S za p af lv ag zb R ah (w+1+1) w (w+1) zd (λy=>Bd zd y) d T aj ak (λ_=>rfl) aU bz (λr J=>(am r J).2) R.length wr x 0 zi (λ_=>false) an bS aY (λl bT cv=>⟨bu l bT,λi r hi _=>(zl.1 hi).1⟩)).mono ?_;rintro e bU⟨u,rfl,⟨a7,a8⟩,aF⟩;have aG:Jf R (AY S.rows) zd (λi=>u (i:Int)):=λi hi=>by rcases aF.closed i hi with h|h;cases h;exact h
  have bV:∀y∈zi,y∈zd\/∃(j:Nat)(s:AH),u (j:Int)=true/\R[j]? =some s/\s.lit=-y:=λy U=>aF.cK y U (λe=>bx (e▸U));have a9:Ae w bU:=Au.after an a8 (λb hb=>by subst hb;omega);have bW:=a7.J.cell 4;clear a8 aF;go_wp2_with fail
  refine(EY _ za p af lv ag zb R ah (aj.ext a9)).mono ?_;rintro e au⟨cx,rfl,ba,aH⟩;obtain⟨cy,bX,cz,rfl,aI,_⟩:=ba.aQ (by rw[Cd];omega) (JA aj.ok);have bY:bX=R.length:=by rw[<-Cd];exact aI.1.symm
  subst bY;have bZ:=aI;have aJ:=a9.trans aH;have b0:=a7.ext aH;clear ba aI aH bW;obtain⟨bc,rfl⟩:∃bc:Aj,bc=wr:=⟨_,rfl⟩;go_wp2;go_loopw[13,60](λv i wr=>∃k:Nat,i=k/\k<=R.length/\Ay wr au v (E8 R (λi=>u (i:Int)) k)/\Ae au wr)(λ_ i _=>R.length-(intOf i).toNat);case atStart=>exact⟨0,rfl,zx _,Ay.nil _ _,Ae.refl _⟩
  case round=>
   obtain⟨k,rfl,bI,av,V⟩:=hrel;skip;by_cases H:k<R.length;obtain⟨bJ,l,rfl,ab,bK,bL,bM⟩:=(bZ.ext V).at_ H;obtain⟨r,J,b1⟩:=EU ab;subst b1;have bd:=(Dx ak.aj J).2;have aK:=SN (M:=λi=>u (i:Int)) J;obtain⟨y,U⟩:∃y,r.reason=y:=⟨_,rfl⟩;have aL:=Hl wr za p af lv ag zb R ah (Ak r.lit) (aj.ext (aJ.trans V));rw[bd,U]at aL;have E:=V2 ak aG J;have be:=am r (zm J);rw[U]at E aK be;obtain⟨cA,cB⟩:=be;have b2:=NP R (λi=>u (i:Int)) k;have b3:=OR (M:=λi=>u (i:Int)) (k:=k) am;have b4:=aL;have bf:=zk aK;have b5:=zk E;have aq:=zk H;have bP:(0:Int)<=(k:Int):=Ad;have bQ:(k:Int)<(R.length:Int):=Ad;have bh:Bj (k:Int):=by unfold Bj;omega
   clear bd aL aK E J U;go_wp2_with fail
   refine(BF _ _).mono ?_;rintro e bi⟨rfl,rfl⟩;go_wp2_with fail
   refine b4.mono ?_;rintro e bi⟨rfl,aw⟩;have ac:=b0.ext (V.trans aw);have aM:=V.trans aw;have ax:=av.ext aw;have cC:=ac.J.cell 3;clear aw;cases Z:u (k:Int)with
   |false=>
    have hrun:=ac.marks.cA bh Z;have aN:=zk Z;clear Z ac;go_wp2;go_roundw;case rel=>exact⟨k+1,by go_num,aq,by rw[bf.out];simp only[aN.out];simpa using ax,aM⟩
    case measure=>simp[intOf];omega
   |true=>
    have hrun:=ac.marks.cR bh Z;have aN:=zk Z;obtain⟨aO,aP,aQ,rfl,ad,_⟩:=ax.aQ Ad b3;have O:=EF aO aP aQ _ y bi ad;rw[b5.out]at O;have aR:=O;have b6:=aM.size_le;clear Z ac O ad;go_wp2_with fail
    refine aR.mono ?_;rintro e b7⟨rfl,rfl⟩;go_wp2_with(at_builtin;refine BW _ rfl (.tmp 82) (.tmp 84) rfl au _ _ rfl (ax.alloc _) _ _ _ rfl (BD _ _ _) Ad Ad Ca ?_;intro bj b8 aS ae _;have aT:=(aM.alloc _).grown ae (λb e=>(ax.J b e).1);clear ae)
    go_roundw;case rel=>exact⟨k+1,by go_num,aq,by rw[bf.out];simp only[aN.out];simpa using aS,aT⟩
    case measure=>simp[intOf];omega
   obtain rfl:k=R.length:=Ad;have b2:=NP R (λi=>u (i:Int)) R.length;have bk:=OR (M:=λi=>u (i:Int)) (k:=R.length) am;obtain⟨aO,aP,aQ,b9,ad,_⟩:=av.aQ Ad bk;have E:Bd (E8 R (λi=>u (i:Int)) R.length) x=false:=by
    cases e:Bd (E8 R (λi=>u (i:Int)) R.length) x with
    |false=>rfl
    |true=> exfalso;obtain⟨i,hi,bn⟩:=zw.1 (CD.1 e);obtain⟨cD,cc⟩:=ye.1 hi;obtain⟨s,_,br,ce,_⟩:=aG i cc;rw[br]at bn;exact Rz ak br ce aY bt bn
   have O:=EF aO aP aQ _ x wr ad;rw[E]at O;have aR:=O;have b6:=V.size_le;subst b9;clear O ad E H bk;go_wp2_with fail
   refine aR.mono ?_;rintro e b7⟨rfl,rfl⟩;go_wp2_with(at_builtin;refine BW _ rfl (.tmp 91) (.tmp 93) rfl au _ _ rfl (av.alloc _) _ _ _ rfl (BD _ _ _) Ad Ad Ca ?_;intro bj b8 aS ae _;have aT:=(V.alloc _).grown ae (λb e=>(av.J b e).1);clear ae)
   go_ret2;exact⟨bj,λi=>u (i:Int),rfl,aS.less aJ.size_le,aG,bV,aJ.trans aT⟩
