import Derived.Test.YtdmempceikifeaaGreatA03
import Derived.ArgAppend
set_option maxRecDepth 100000
set_option maxHeartbeats 16000000
set_option linter.all false
namespace Go.Proofs.YtdmempceikifeaaGreat
open Go.RowKit Tryz
def Afs(xs:An)(code:Int)(w:Aj)(e:Bz)(w':Aj):Prop:=∃v,e=.returned (.tuple #[v,code])/\Ay w' w v xs/\Ae w w'
def P9(A n c xs w)(h:AB w A n xs)(ag:n<=1000000000):AC 322 #[.slice A n c] w (Afs (CR xs) (Dc xs) w):=by
 go_enter func322,ntmps322;go_wp2;go_loopw[4,10](λv i wr=>∃k,k<=n/\i=k/\Ay wr w v (B9 [] (xs.take k))/\G6 (xs.take k)=false/\Ae w wr)(λ_ i _=>n-(intOf i).toNat);case atStart=>exact⟨0,zx _,rfl,Ay.nil _ _,rfl,Ae.refl _⟩
 case round=>
  obtain⟨k,aA,rfl,T,ab,u⟩:=hrel;have aB:=u.size_le;have ah:=Qa (xs.take k) [];have au:(xs.take k).length<=k:=aa4 _ _;have aj:Hid ((B9 [] (xs.take k)).length<=1000000000):=by unfold Hid;simp at ah;omega
  have av:=SF ab;have ak:=zk ab;clear ah au ab;obtain⟨aC,no,co,rfl,al⟩:=T.aC (by have:=aj.out;omega) (λx H=>by have:=av x H;omega);skip;by_cases am:k<n
  . obtain⟨aD,x,rfl,ac,aE,aF,aG⟩:=(h.ext u).at_ am;have an:Hid (B9 [] (xs.take (k+1))=if Bd (B9 [] (xs.take k)) (-x)then B9 [] (xs.take k)else B9 [] (xs.take k)++[-x]):=by unfold Hid;rw[(zk (AM ac)).out,VK]
    rcases(show(Ak x=0/\IJ x=0)\/(Ak x≠0/\IJ x=-x/\IJ x≠0)from by unfold Ak IJ;(repeat(first|omega|split)))with⟨J,U⟩|⟨J,U,aw⟩;have E:Hid (CR xs=[]/\Dc xs=10):=by unfold Hid CR Dc;rw[AcM ac J];exact⟨rfl,rfl⟩
    have Z:=zk U;clear J U;go_wp2_with(go_at_call 372;refine(Yj _ _).mono ?_;rintro e w'⟨rfl,rfl⟩;rw[Z.out])
    go_ret2;exact⟨_,by rw[E.2];rfl,by rw[E.1];exact Ay.nil _ _,u⟩;obtain⟨_,aH,aI⟩:=FB J;have aJ:(-x==0)=false:=by rw[yv];omega
    have aK:(x==0)=false:=by rw[yv];omega
    have aL:¬x=0:=Ad;have ao:=zk (Aax ak ac J);have Z:=zk U;clear J U aw;cases aa:Bd (B9 [] (xs.take k)) (-x);have V:=zk aa;clear aa;go_wp2_with(first
     |(go_at_call 372;refine(Yj _ _).mono ?_;rintro e w'⟨rfl,rfl⟩;rw[Z.out])
     |(go_at_call 121;(with_reducible refine(EF _ _ _ _ (-x) _ al).mono ?_);rintro e w'⟨rfl,rfl⟩;rw[V.out])
     |(at_builtin;refine BW _ rfl (.tmp 22) (.tmp 24) rfl w _ _ rfl (T.alloc _) _ _ _ rfl (BD _ _ _) Ad (by have:=aj.out;omega) Ca ?_;intro aM w2 ad ax _;skip))
    go_roundw;case rel=>exact⟨k+1,Ad,by go_num,by rw[an.out,V.out];exact ad,ao,Ae.grown (u.alloc _) ax (λj ay=>(T.J j ay).1)⟩
    case measure=>simp[intOf];omega
    have V:=zk aa;clear aa;go_wp2_with(first
     |(go_at_call 372;refine(Yj _ _).mono ?_;rintro e w'⟨rfl,rfl⟩;rw[Z.out])
     |(go_at_call 121;(with_reducible refine(EF _ _ _ _ (-x) _ al).mono ?_);rintro e w'⟨rfl,rfl⟩;rw[V.out]))
    go_roundw;case rel=>exact⟨k+1,Ad,by go_num,by rw[an.out,V.out];exact T,ao,u⟩
    case measure=>simp[intOf];omega
  have hb:=ak.out;have ae:=T;rw[CI h.1 am]at hb ae;have aq:=zk hb;have ad:=ae;clear hb ae;cases O:EG xs;have E:Hid (CR xs=B9 [] xs/\Dc xs=0):=by unfold Hid CR Dc;rw[aq.out,O];exact⟨rfl,rfl⟩
  have af:=zk O;clear O;go_wp2_with(go_at_call 136;(with_reducible refine(PX _ _ _ xs _ (h.ext u) ag).mono ?_);rintro e az⟨rfl,H⟩;rw[af.out])
  go_ret2;exact⟨_,by rw[E.2];rfl,by rw[E.1];exact ad.ext H,u.trans H⟩;have E:Hid (CR xs=[]/\Dc xs=11):=by unfold Hid CR Dc;rw[aq.out,O];exact⟨rfl,rfl⟩
  have af:=zk O;clear O;go_wp2_with(go_at_call 136;(with_reducible refine(PX _ _ _ xs _ (h.ext u) ag).mono ?_);rintro e az⟨rfl,H⟩;rw[af.out])
  go_ret2;exact⟨_,by rw[E.2];rfl,by rw[E.1];exact Ay.nil _ _,u.trans H⟩
def QN(w T A n xs)(h:AB w A n xs)(H c y)(ab:w.cell? H=some (.int .i64 y))
 (ac:-9223372036854775808<=y/\y<=9223372036854775807)(al:n<=1000000000000):
 ∃J w',(Builtin.append_ #[86,86] T #[.slice A n n,.slice (some H) 1 c]).run prog w=.ok J w'/\Ay w' w.heap.size J (xs++[y])/\w.grownBy w' none:=by
 have U:=h.1
 have ad:AB w (some H) 1 [y]:=⟨rfl,by decide,by simpa using ac,λ_=>⟨H,rfl,λj x E=>by
  cases j with
  |zero=>simp at E;subst E;simpa[Addr.add]using ab
  |succ j=>simp at E⟩⟩
 cases A with
 |none=>
  have ae:n=0:=by
   rcases xe n with e|e
   exact e
   obtain⟨_,e,_⟩:=h.2.2.2 e
   cases e
  subst ae
  have O:=z9 U
  subst O
  obtain⟨J,w',V,Z,aa,_⟩:=Jp w T w AI [] (Ay.nil _ _) (some H) 1 c [y] ad (by simp) (zs _)
  exact⟨J,w',V,Z,aa⟩
 |some b=>
  obtain⟨i,hi,af,ag,ah⟩:=info_parts Jr
  obtain⟨J,w',V,Z,aa⟩:=run_append_arg_grows (P:=prog) (w:=w) 86 T 3 i () 1 8 underlying86 hi af ag ah rfl Ax b n n (xs.map (Value.int .i64)) (by simp[U])
   (λj u E=>by
    rw[yd]at E
    obtain⟨x,O,rfl⟩:=aae.1 E
    have aj:0<n:=by have:=(zl.1 O).1;omega
    obtain⟨_,e,ak⟩:=h.2.2.2 aj
    cases e
    exact ak j x O)
   H 1 c [y] rfl
   (λj u E=>by
    cases j with
    |zero=>simp at E;subst E;simpa[Addr.add]using ab
    |succ j=>simp at E)
   Ad (by unfold maxLen;omega) Ad
  refine⟨J,w',V,?_,aa⟩
  unfold Ay
  rw[zu,yo,U]
  exact Z
def Aa5(w){zf rest o a Q}(H:o.guard=none)(s x) (J:o.op=.call {callee:=.builtin .append,args:=#[s,x],argTypes:=#[86,86]}) (A n xs)(O:a.eval s=.slice A n n)(h:AB w A n xs)(E c y)(T:a.eval x=.slice (some E) 1 c)(U:w.cell? E=some (.int .i64 y)) (V:-9223372036854775808<=y/\y<=9223372036854775807)(Z:n<=1000000000000) (aa:∀u w',Ay w' w.heap.size u (xs++[y])->w.grownBy w' none->wpList prog zf Q rest (a.put o.dst u) w'):wpList prog zf Q (o::rest) a w:=by refine x5 H λK ab=>?_;obtain⟨u,w',hrun,ac,ad⟩:=QN w o.type A n xs h E c y U V Z;unfold Oper.wp execOp;simp only[J,resolve,invoke,builtin,aac,Sem.run_pure,Result.andThen_ok,aa8,xn,abd,O,T,hrun];exact ab _ _ (aa u w' ac ad)
def Ad0(xs:An)(b:Bool)(code:Int)(w:Aj)(e:Bz)(w':Aj):Prop:=∃v,e=.returned (.tuple #[v,b,code])/\Ay w' w v xs/\Ae w w'
def Uw{l c}(_hc:∀x∈c,-9223372036854775808<=x/\x<=9223372036854775807):-9223372036854775808<=BN l c/\BN l c<=Bh:=by
 cases hb:Cy l c with
 |true=> unfold BN;rw[zq hb];unfold Cy at hb;simp only[z4,z8]at hb;have:=(FB (PP hb.2).1).2;omega
 |false=>unfold BN;rw[hb];simp
def Nl(A n c l A' n' c' cl w)(h:AB w A n l)(ah:n<=c)(U:AB w A' n' cl)(aj:n<=1000000000):AC 373 #[.slice A n c,.slice A' n' c'] w (Ad0 (Dg l cl).1 (Dg l cl).2.1 (Dg l cl).2.2 w):=by
 have ak:=XG l cl;cases E:EB l cl;have O:(decide (Ew l cl<0))=false:=by rw[aah];intro al;have:Ew l cl=-1:=Ad;rw[EB,this]at E;cases E
 cases V:Cy l cl;have H:Hid (Dg l cl=([],false,22)):=by unfold Hid Dg;rw[E,V];rfl
 have Z:=zk O;have aa:=zk V;go_enter func373,ntmps373;go_wp2_with(first
  |(go_at_call 396;refine(Po _ _ _ l _ _ _ cl _ h U Ad).mono ?_;rintro e ab⟨rfl,u⟩;skip)
  |(go_at_call 397;refine(AbT _ _ _ l _ _ _ cl _ (h.ext u) (U.ext u) Ad).mono ?_;rintro e w2⟨rfl,J⟩;rw[aa.out];have T:=u.trans J;clear J))
 go_ret3;exact⟨_,by rw[H.out];rfl,by rw[H.out];exact Ay.nil _ _,T⟩;have H:Hid (Dg l cl=(l++[BN l cl],false,0)):=by unfold Hid Dg;rw[E,V];rfl
 have Z:=zk O;have aa:=zk V;clear O V E;go_enter func373,ntmps373;go_wp2_with(first
  |(go_at_call 396;refine(Po _ _ _ l _ _ _ cl _ h U Ad).mono ?_;rintro e ab⟨rfl,u⟩;have O:=Z.out;skip)
  |(go_at_call 397;refine(AbT _ _ _ l _ _ _ cl _ (h.ext u) (U.ext u) Ad).mono ?_;rintro e w2⟨rfl,J⟩;rw[aa.out];have T:Hid (Ae w w2):=u.trans J;clear J)
  |(at_builtin;refine Aa5 _ rfl (.tmp 28) (.tmp 30) rfl A n l rfl ((h.ext T.out).ext ((Ae.refl _).alloc _)) _ _ _ rfl (BD _ _ _) (Uw (l:=l) U.2.2.1) Ad ?_;intro am an ad ac;have ae:=Ae.grown (T.out.alloc _) ac (λj af=>by cases af);clear ac))
 go_ret3;exact⟨_,by rw[H.out];rfl,by rw[H.out];exact ad.less (by have:=T.out.size_le;simp;omega),ae⟩;have H:Hid (Dg l cl=(l,true,0)):=by unfold Hid Dg;rw[E];rfl
 have O:Ew l cl=-1:=by simpa[EB]using E
 have Z:=zk O;clear O E;go_enter func373,ntmps373;go_wp2_with(first
  |(go_at_call 396;refine(Po _ _ _ l _ _ _ cl _ h U Ad).mono ?_;rintro e ab⟨rfl,u⟩;rw[Z.out];skip)
  |(go_at_call 60;refine(Fm _ _ _ l _ (h.ext u) Ad).mono ?_;rintro e w2⟨v,rfl,ag,J⟩;have T:=u.trans J;clear J))
 go_ret3;exact⟨_,by rw[H.out];rfl,by rw[H.out];exact ag.less u.size_le,T⟩
def Lp(l h):Dg l h=(l,true,0)\/Dg l h=(l++[BN l h],false,0)\/Dg l h=([],false,22):=by unfold Dg;cases EB l h;cases Cy l h;exact Or.inr (Or.inr rfl);exact Or.inr (Or.inl rfl);exact Or.inl rfl
def Md{l h u i}(E:Dg l h=(l,true,0)):BV l (h::u) i=(l,(i:Int)+1,0):=by rw[BV,E];rfl
theorem MF{l h u i}(E:Dg l h=([],false,22)):BV l (h::u) i=([],(i:Int),22):=by rw[BV,E];rfl
def Nh{l h u i}(E:Dg l h=(l++[BN l h],false,0)):BV l (h::u) i=BV (l++[BN l h]) u (i+1):=by rw[BV,E];rfl
def ZM{u:Type}{L:List u}{k x}(h:L[k]? =some x):L.drop k=x::L.drop (k+1):=by obtain⟨E,e⟩:=zl.1 h;rw[y8 E,e]
def Adc(r:An×Int×Int)(w:Aj)(e:Bz)(w':Aj):Prop:=∃A n c,e=.returned (.tuple #[.slice A n c,r.2.1,r.2.2])/\AB w' A n r.1/\Ae w w'
def Xw(A n c l A' n' c' L w)(h:AB w A n l)(ah:Bf w A' n' L)(aA:n<=100000000)(aB:n'<=100000000):AC 323 #[.slice A n c,.slice A' n' c'] w (Adc (BV l L 0) w):=by
 go_enter func323,ntmps323;go_wp2_with fail
 refine(Fm _ _ _ l _ h Ad).mono ?_;rintro e aC⟨v,rfl,an,ao⟩;go_wp2_with fail
 go_loopw[4,16](λo i wr=>∃(k:Nat)(u:An),k<=n'/\i=k/\BV l L 0=BV u (L.drop k) k/\u.length<=n+k/\(∀x∈u,-9223372036854775808<=x/\x<=Bh)/\Ay wr w o u/\Ae w wr)(λ_ i _=>n'-(intOf i).toNat);case atStart=>exact⟨0,l,zx _,rfl,rfl,by have:=(zk h.1).out;omega,(h.2.2.1),an,ao⟩
 case round=>
  obtain⟨k,u,aD,rfl,aj,ak,ac,ad,O⟩:=hrel;obtain⟨aE,no,co,rfl,T,ae⟩:=ad.aQ Ad ac;have aF:=zk T.1;have af:no<=1000000000:=by have:=T.1;omega
  have aa:=zk aj;have aG:=ad;clear aj ad;by_cases aq:k<n';obtain⟨aH,xs,aI,aJ,aK,rfl,au,aL,ab⟩:=(ah.ext O).at_ aq;have ag:=zk (ZM au);rcases Lp u xs with E|E|E;have H:Hid (BV l L 0=(u,(k:Int)+1,0)):=by unfold Hid;rw[aa.out,ag.out,Md E]
  have U:=zk E;clear E;go_wp2_with fail
  refine(Nl _ _ _ u _ _ _ xs _ T ae ab af).mono ?_;rintro e w2⟨al,rfl,J,V⟩;simp only[U.out]at J⊢;obtain⟨av,aw,ax,rfl,ay⟩:=J.aC (by have:=ak;omega) ac;clear J;go_wp2_with fail
  go_ret3;exact⟨av,aw,ax,by rw[H.out];rfl,by rw[H.out];exact ay,O.trans V⟩;have H:Hid (BV l L 0=BV (u++[BN u xs]) (L.drop (k+1)) (k+1)):=by unfold Hid;rw[aa.out,ag.out,Nh E]
  have U:=zk E;clear E;go_wp2_with fail
  refine(Nl _ _ _ u _ _ _ xs _ T ae ab af).mono ?_;rintro e w2⟨al,rfl,J,V⟩;simp only[U.out]at J⊢;have az:=J;clear J;go_wp2_with fail
  go_roundw;case rel=>exact⟨k+1,u++[BN u xs],Ad,by go_num,H,by have:=ak;simp;omega,λx Z=>by rcases zz.1 Z with Z|Z;exact ac x Z;rw[zy.1 Z];exact(Uw (l:=u) ab.2.2.1),az.less O.size_le,O.trans V⟩
  case measure=>simp[intOf];omega
  have H:Hid (BV l L 0=([],(k:Int),22)):=by unfold Hid;rw[aa.out,ag.out,MF E]
  have U:=zk E;clear E;go_wp2_with fail
  refine(Nl _ _ _ u _ _ _ xs _ T ae ab af).mono ?_;rintro e w2⟨al,rfl,J,V⟩;simp only[U.out]at J⊢;clear J;go_wp2_with fail
  go_ret3;exact⟨none,0,0,by rw[H.out];rfl,by rw[H.out];exact AB.nil _,O.trans V⟩;have am:k=n':=Ad;have H:Hid (BV l L 0=(u,(n':Int),23)):=by unfold Hid;rw[aa.out,abt (by have:=ah.1;omega),am];rfl
  clear am;go_wp2_with fail
  go_ret3;exact⟨_,_,_,by rw[H.out];rfl,by rw[H.out];exact T,O⟩
def Y7(c):(CR c).length<=c.length:=by unfold CR;split;simp;split;simp;have:=Qa c [];simpa using this
def Aag(c):∀x∈CR c,-100000<=x/\x<=100000:=by
 intro x u;unfold CR at u;cases hb:G6 c with
 |true=>rw[hb]at u;simp at u
 |false=>
  rw[hb]at u;cases E:EG c with
  |true=>rw[E]at u;simp at u
  |false=>rw[E]at u;exact SF hb x (by simpa using u)
def Aam(A n c xs A' n' c' L w)(h:AB w A n xs)(T:Bf w A' n' L)(ag:n<=100000000)(U:n'<=100000000):AC 271 #[.slice A n c,.slice A' n' c'] w λe w'=>e=.returned (.tuple #[(K0 xs L),(F8 xs L)])/\Ae w w':=by
 have V:=Y7 xs;rw[h.1]at V;cases J:decide (Dc xs≠0);have u:Dc xs=0:=by simpa using J
 have Z:=zk u;have E:Hid (K0 xs L=(BV (CR xs) L 0).2.1/\F8 xs L=(BV (CR xs) L 0).2.2):=by unfold Hid K0 F8;rw[zo (λh=>h u),zo (λh=>h u)];exact⟨rfl,rfl⟩
 go_enter func271,ntmps271;go_wp2_with fail
 refine(P9 _ _ _ xs _ h Ad).mono ?_;rintro e aa⟨v,rfl,ab,H⟩;rw[Z.out];obtain⟨ah,ac,aj,rfl,O⟩:=ab.aC Ad (λx ad=>by have:=(Aag xs) x ad;omega);have ae:ac<=100000000:=by have:=O.1;omega
 go_wp2_with fail
 refine(Xw _ _ _ _ _ _ _ L _ O (T.ext H) ae U).mono ?_;rintro e w2⟨ak,al,am,rfl,_,af⟩;go_wp2_with fail
 go_ret2;exact⟨by rw[E.1,E.2];rfl,H.trans af⟩;have u:Dc xs≠0:=by simpa using J
 have E:Hid (K0 xs L=0/\F8 xs L=Dc xs):=by unfold Hid K0 F8;rw[zq u,zq u];exact⟨rfl,rfl⟩
 go_enter func271,ntmps271;go_wp2_with fail
 refine(P9 _ _ _ xs _ h Ad).mono ?_;rintro e aa⟨v,rfl,_,H⟩;go_wp2_with fail
 go_ret2;exact⟨by rw[E.1,E.2];rfl,H⟩
def RV:∀(u)(l)(i:Nat),(i:Int)<=(BV l u i).2.1/\(BV l u i).2.1<=(i:Int)+u.length
 |[],_,i=>by show(i:Int)<=i/\(i:Int)<=i+((0:Nat):Int);omega
 |h::u,l,i=>by rw[List.length_cons];rcases Lp l h with e|e|e;rw[Md e];grind;rw[Nh e];have:=RV u (l++[BN l h]) (i+1);omega;grind[MF]
def ON{m}:∀u l i,Rv l m->(BV l u i).2.2=0->(∀c∈u.take ((BV l u i).2.1-i).toNat,CF c m=true)->False
 |[],_,_,_,h,_=>by have Z:(23:Int)=0:=h;omega
 |h::u,l,i,O,J,E=>by
  rcases Lp l h with e|e|e;rw[Md e]at E;grind[EB,Dg,Cy,Zl];have aa:=(RV u (l++[BN l h]) (i+1)).1;rw[Nh e]at J E;have T:((BV (l++[BN l h]) u (i+1)).2.1-(i:Int)).toNat=((BV (l++[BN l h]) u (i+1)).2.1-((i+1:Nat):Int)).toNat+1:=Ad;rw[T,List.take_succ_cons]at E;have ab:Cy l h=true:=by grind[Dg,EB,Cy]
  refine ON u (l++[BN l h]) (i+1) (λx H U=>?_) J (λc V=>E c (yj _ V));rcases zz.1 H with H|H;exact O x H U;grind[List.mem_singleton,Yw,List.mem_cons_self];grind[MF]
def Y5{c u m}(H:F8 c u=0)(O:∀d∈u.take (K0 c u).toNat,CF d m=true):CF c m=true:=by
 by_cases J:Dc c=0;obtain⟨_,T,hb,_⟩:=Yi J;have U:F8 c u=(BV (CR c) u 0).2.2:=by unfold F8;rw[zo (λh=>h J)]
 have V:K0 c u=(BV (CR c) u 0).2.1:=by unfold K0;rw[zo (λh=>h J)]
 rw[U]at H;rw[V]at O;cases Z:CF c m with
 |true=>rfl
 |false=> exfalso;refine ON u (CR c) 0 (λx E aa=>?_) H (by simpa using O);rw[T,ED]at E;rcases E with E|E;cases E;have:=Aer Z x (by unfold XS;exact zw.2 ⟨-x,ye.2 ⟨E,by grind[MC]⟩,Ad⟩) aa;omega
 unfold F8 at H;rw[zq J]at H;omega
structure Cz where
 kind:Int
 id:Int
 lits:An
 hints:An
structure Ey where
 rows:List (Int×An)
 last:Int
 done:Bool
def C8(R:List (Int×An))(i:Int):Option An:=(R.find? λp=>p.1==i).map (·.2)
def CQ(R:List (Int×An))(u:An):List (Int×An):=R.filter λp=>!Bd u p.1
def FG(R:List (Int×An))(u:An):AT:=u.map λi=>(C8 R i).getD []
def Pv(R:List (Int×An)):An:=R.map (·.1)
def KC(S:Ey)(i:Int)(l:An):Ey:={rows:=S.rows++[(i,l)],last:=i,done:=S.done||decide (l.length=0)}
def BG(L:AT):Ey:=L.foldl (λS l=>KC S (S.last+1) l) {rows:=[],last:=0,done:=false}
structure KM(s:Cz):Prop where
 e2:0<=s.id
 dL:s.id<=10000000
 len:s.hints.length<=1000
 dC:∀x∈s.hints,1<=x/\x<=10000000
 k:(s.kind=1/\1<=s.id/\M8 s.lits 100000)\/(s.kind=2/\s.lits=[])
def UL(R:List (Int×An))(u:An):Prop:=∀x∈u,(C8 R x).isSome=true
structure OF(S:Ey)(s:Cz):Prop where
 may:KM s
 has:UL S.rows s.hints
 k:s.kind=1->S.last<s.id/\EG s.lits=false/\F8 s.lits (FG S.rows s.hints)=0
 d:s.kind=2->s.hints.Nodup
def BU(S:Ey)(s:Cz):Ey:=if s.kind=2 then{S with rows:=CQ S.rows s.hints}else KC S s.id s.lits
def To(S:Ey)(P:List Cz):Prop:=∀k s,P[k]? =some s->OF ((P.take k).foldl BU S) s
def MW(v:Int)(L:AT)(P:List Cz):Prop:=Ov v L/\To (BG L) P/\(P.foldl BU (BG L)).done=true
def QT(R:List (Int×An))(m:List Bool):Prop:=∀p∈R,CF p.2 m=true
def L6{R:List (Int×An)}{i:Int}{c:An}(h:C8 R i=some c):(i,c)∈R:=by unfold C8 at h;rw[aae]at h;obtain⟨⟨j,d⟩,u,rfl⟩:=h;have E:=aa3 u;simp at E;subst E;exact(y0 u)
def Ga(R:List (Int×An)):Prop:=(Pv R).Pairwise (· <·)
def Agm{R:List (Int×An)}(h:Ga R):∀p∈R,C8 R p.1=some p.2:=by
 induction R with
 |nil=>intro p u;cases u
 |cons q R H=>
  intro p u;have E:(Pv (q::R)).Pairwise (· <·):=h;rw[Pv,xn,abv]at E;unfold C8;rw[List.find?_cons];rcases xl.1 u with e|e;subst e;simp;have O:=E.1 p.1 (zw.2 ⟨p,e,rfl⟩);have J:(q.1==p.1)=false:=by rw[yv];omega
  rw[J];exact H E.2 p e
structure Dj(S:Ey):Prop where
 bj:Ga S.rows
 low:0<=S.last/\S.last<=10000000
 ids:∀p∈S.rows,1<=p.1/\p.1<=S.last
 wide:∀p∈S.rows,p.2.length<=1000/\∀x∈p.2,-100000<=x/\x<=100000
def Pz{R:List (Int×An)}{i:Int}{l:An}{n:Int}(h:Ga R)(hi:∀p∈R,p.1<=n)(H:n<i):Ga (R++[(i,l)]):=by unfold Ga Pv at *;rw[yo,ab4];refine⟨h,AG,λa u b hb=>?_⟩;obtain⟨p,E,rfl⟩:=zw.1 u;simp at hb;subst hb;have:=hi p E;omega
def Dj.put{S:Ey}(h:Dj S){i:Int}{l:An}(hi:S.last<i)(E:i<=10000000)(H:l.length<=1000)(hb:∀x∈l,-100000<=x/\x<=100000):Dj (KC S i l):=by have J:=h.low;refine⟨Pz h.bj (λp u=>(h.ids p u).2) hi,⟨by show 0<=i;omega,E⟩,λp u=>?_,λp u=>?_⟩;rcases zz.1 u with u|u;have:=h.ids p u;exact⟨this.1,by show p.1<=i;omega⟩;simp at u;subst u;exact⟨by show 1<=i;omega,aat _⟩;rcases zz.1 u with u|u;exact h.wide p u;simp at u;subst u;exact⟨H,hb⟩
def Dj.drop{S:Ey}(h:Dj S)(E:An):Dj {S with rows:=CQ S.rows E}:=by refine⟨?_,h.low,λp u=>h.ids p (ye.1 u).1,λp u=>h.wide p (ye.1 u).1⟩;unfold Ga Pv CQ;exact(List.Pairwise.sublist (ad7 _ xw) h.bj)
def Jl{l:An}{v:Int}(O:v<=100000)(h:M8 l v):l.length<=1000/\∀x∈l,(-100000<=x/\x<=100000)/\Ak x≠0/\Ak x<=v:=by
 obtain⟨T,E,H⟩:=Qs h;refine⟨E,λx J=>?_⟩;have u:=H x J;have e:x≠0/\-v<=x/\x<=v:=by unfold AV at u;(repeat' split at u)<;>simp_all
 refine⟨Ad,?_,?_⟩<;>unfold Ak<;>(repeat(first|omega|split))
def OF.dx{S:Ey}{s:Cz}(h:OF S s)(u:s.kind≠2):s.kind=1/\1<=s.id/\M8 s.lits 100000:=h.may.k.resolve_right λe=>u e.1
def Dj.step{S:Ey}(h:Dj S){s:Cz}(u:OF S s):Dj (BU S s):=by unfold BU;by_cases E:s.kind=2;rw[zq E];exact h.drop _;rw[zo E];obtain⟨H,_,J⟩:=u.dx E;obtain⟨O,T⟩:=Jl Ax J;exact h.put (u.k H).1 u.may.dL O (λx U=>(T x U).1)
def AaU{S:Ey}{s:Cz}{m:List Bool}(h:OF S s)(H:QT S.rows m)(E:S.done=false):QT (BU S s).rows m/\(BU S s).done=false:=by
 unfold BU;by_cases J:s.kind=2;rw[zq J];exact⟨λp u=>H p (ye.1 u).1,E⟩;rw[zo J];have O:=Y5 (h.k (h.dx J).1).2.2 λd E=>by obtain⟨x,U,rfl⟩:=zw.1 (xh E);obtain⟨c,T⟩:=Option.isSome_iff_exists.1 (h.has x U);rw[T];exact H _ (L6 T)
 refine⟨λp u=>?_,?_⟩;rcases zz.1 u with u|u;exact H p u;simp at u;subst u;exact O;show(S.done||decide (s.lits.length=0))=false;rw[E,aar,aah];intro e;rw[z9 e]at O;cases O
def UF{m:List Bool}:∀(P:List Cz)(S:Ey),To S P->QT S.rows m->S.done=false->(P.foldl BU S).done=false
 |[],_,_,_,h=>h
 |s::P,S,h,u,E=>by obtain⟨H,J⟩:=AaU (h 0 s rfl) u E;exact UF P _ (λk t O=>h (k+1) t O) H J
def QO{S:Ey}{P:List Cz}(hi:Dj S)(h:To S P):∀k,Dj ((P.take k).foldl BU S)
 |0=>hi
 |k+1=>by
  cases e:P[k]? with
  |none=>rw[z1 (by have:=List.getElem?_eq_none_iff.1 e;omega),<-z1 (List.getElem?_eq_none_iff.1 e)];exact QO hi h k
  |some s=> rw[AM e,xr];exact(QO hi h k).step (h k s e)
def GN(L:AT)(c:An):BG (L++[c])=KC (BG L) ((BG L).last+1) c:=by unfold BG;rw[xr];rfl
def J7{P:AT->Prop}(u:P [])(E:∀L c,P L->P (L++[c]))(L:AT):P L:=by
 have:∀n,∀L:AT,L.length=n->P L:=by
  intro n;induction n with
  |zero=>intro L h;rw[z9 h];exact u
  |succ n H=>
   intro L h;have J:L≠[]:=λe=>by rw[e]at h;simp at h
   rw[<-acl J];exact E _ _ (H _ (by rw[List.length_dropLast];omega))
 exact this _ L rfl
def K9(L:AT):(BG L).last=(L.length:Int):=by refine J7 (P:=λL=>(BG L).last=(L.length:Int)) rfl (λL c u=>?_) L;rw[GN];show(BG L).last+1=_;rw[u,zu];simp
def AaR(L:AT):(BG L).rows.map (λp:Int×An=>p.2)=L:=by refine J7 (P:=λL:AT=>(BG L).rows.map (λp:Int×An=>p.2)=L) rfl (λL c u=>?_) L;rw[GN];show((BG L).rows++[((BG L).last+1,c)]).map (λp:Int×An=>p.2)=_;rw[yo,u];rfl
def Ab7(L:AT):(BG L).done=L.any λc=>decide (c.length=0):=by refine J7 (P:=λL=>(BG L).done=L.any λc=>decide (c.length=0)) rfl (λL c u=>?_) L;rw[GN,abx,<-u];show((BG L).done||decide (c.length=0))=_;simp
def Sl{L:AT}(u:L.length<=1000000)(key:∀c∈L,c.length<=1000/\∀x∈c,-100000<=x/\x<=100000):Dj (BG L):=by revert u key;refine J7 (P:=λL=>L.length<=1000000->(∀c∈L,c.length<=1000/\∀x∈c,-100000<=x/\x<=100000)->Dj (BG L)) ?_ ?_ L;exactλ_ _=>⟨List.Pairwise.nil,Ax,λp E=>(by cases E),λp E=>(by cases E)⟩;intro L c J u H;have V:=K9 L;rw[zu]at u;simp at u;obtain⟨O,T⟩:=H c AG;rw[GN];exact(J Ad (λd U=>H d (yp _ U))).put Ad Ad O T
def Lo{v:Int}{L:AT}(h:Ov v L):∀c∈L,c.length<=1000/\∀x∈c,-100000<=x/\x<=100000:=λc u=>by obtain⟨E,H⟩:=PQ h;obtain⟨J,O⟩:=Jl E.2 (H c u).1;exact⟨J,λx T=>(O x T).1⟩
def TD{v:Int}{L:AT}(h:Ov v L)(u:L.length<=1000000):Dj (BG L):=Sl u (Lo h)
def MW.may{v:Int}{L:AT}{P:List Cz}(h:MW v L P):∀z∈P,KM z:=λz u=>let⟨k,E⟩:=abw.1 u;(h.2.1 k z E).may
def Xd{v:Int}{L:AT}{P:List Cz}{m:List Bool}(h:Db L m<0):¬MW v L P:=λ⟨_,u,E⟩=>by rw[IX]at h;have:=UF P _ u (m:=m) (λp H=>h _ (by rw[<-AaR L];exact zw.2 ⟨p,H,rfl⟩)) (by rw[Ab7,xm];intro c J;have:=h c J;simp;rintro rfl;cases this);rw[E]at this;cases this
def Bv(A:List Cf):List (Int×An):=(A.filter λr=>r.live).map λr=>(r.id,r.lits)
structure Told(L)(P:List Cz)(A)(id):Prop where
 run:To (BG L) P
 rows:(P.foldl BU (BG L)).rows=Bv A
 last:(P.foldl BU (BG L)).last=id
 inv:Dj (P.foldl BU (BG L))
def Mp(A r)(h:r.live=true):Bv (A++[r])=Bv A++[(r.id,r.lits)]:=by grind[Bv]
def U7{u P s}(h:To u P)(E:OF (P.foldl BU u) s):To u (P++[s]):=by unfold To at *;grind
def Told.start{L v A}(u:Ov v L)(E:L.length<=1000000)(H:Bv A=(BG L).rows):Told L [] A (L.length:Int):=⟨λk s J=>by simp_all,H.symm,K9 L,TD u E⟩
def Told.add{L P A id pos}(h:Told L P A id){zd u}(J:KM ⟨1,id+1,zd,u⟩)(O:EG zd=false) (T:∀x∈u,0<=x/\(C8 (Bv A) x).isSome=true)(U:F8 zd (FG (Bv A) u)=0):Told L (P++[⟨1,id+1,zd,u⟩]) (A++[⟨pos,id+1,zd,true,true⟩]) (id+1):=by
 have E:OF (P.foldl BU (BG L)) ⟨1,id+1,zd,u⟩:=⟨J,by rw[h.rows];exactλx V=>(T x V).2,λ_=>⟨by rw[h.last];show id<id+1;omega,O,by rw[h.rows];exact U⟩,λe=>absurd e (show(1:Int)≠2 by decide)⟩;have H:(P++[(⟨1,id+1,zd,u⟩:Cz)]).foldl BU (BG L)=KC (P.foldl BU (BG L)) (id+1) zd:=by rw[xr];rfl
 refine⟨U7 h.run E,?_,?_,?_⟩;rw[H,Mp _ _ rfl];show(P.foldl BU (BG L)).rows++[(id+1,zd)]=_;rw[h.rows];rw[H];rfl;rw[xr];exact h.inv.step E
def Told.drop{L P A A' id}(h:Told L P A id){u}(O:KM ⟨2,id,[],u⟩)(E:u.Nodup/\UL (Bv A) u)(T:Bv A'=CQ (Bv A) u):Told L (P++[⟨2,id,[],u⟩]) A' id:=by
 have H:OF (P.foldl BU (BG L)) ⟨2,id,[],u⟩:=⟨O,by rw[h.rows];exact E.2,λe=>absurd e (show(2:Int)≠1 by decide),λ_=>E.1⟩;have J:(P++[(⟨2,id,[],u⟩:Cz)]).foldl BU (BG L)={P.foldl BU (BG L)with rows:=CQ (P.foldl BU (BG L)).rows u}:=by rw[xr];rfl
 refine⟨U7 h.run H,?_,?_,?_⟩;rw[J,T];show CQ _ _=_;rw[h.rows];rw[J];exact h.last;rw[xr];exact h.inv.step H
def Told.accepted{L P A id v}(h:Told L P A id)(u:Ov v L)(E:(P.foldl BU (BG L)).done=true):MW v L P:=⟨u,h.run,E⟩
def Calm(R:List AH)(c:An):Prop:=(∃x∈c,x∈Az R)\/∃x∈c,∃y∈c,x≠y/\-x∉Az R/\-y∉Az R
def Ce(R:List AH)(d:Int)(C:An->Prop):Prop:=∀j,0<=j->j<d->∀c,C c->Calm (Bp R j) c
theorem MI{R j z}:z∈Az (Bp R j)↔∃r∈R,r.lit=z/\r.level<=j:=by grind[Az,Bp]
def QL(R){i j}(h:i<=j):Bp (Bp R j) i=Bp R i:=by unfold Bp;rw[ac4];grind
theorem Aad{R j}(h:∀r∈R,r.level<=j):Bp R j=R:=by grind[Bp,List.filter_eq_self]
def SU{R cl d C}(H:Bq R cl d)(aa:1<=d)(hb:Ce R d C){zi}(T:C zi)(J:∀x∈zi,-x∈Az R):∃x∈zi,AR R (Ak x)=d:=by
 have U:=hb (d-1) Ad Ad zi T;have ze:∀x∈zi,∃r∈R,r.lit=-x/\AR R (Ak x)=r.level:=λx u=>by have:=J x u;unfold Az at this;obtain⟨r,E,e⟩:=zw.1 this;obtain⟨i,hi⟩:=z0 E;have O:=(Dx H.aj hi).1;rw[e,Bk]at O;grind
 have low:∀x∈zi,AR R (Ak x)≠d->-x∈Az (Bp R (d-1)):=λx u ab=>by obtain⟨r,E,e,O⟩:=ze x u;have:=(H.low r E).2;grind[MI]
 rcases U with⟨x,u,V⟩|⟨x,u,y,ac,_,ad,ae⟩;obtain⟨r,E,e,_⟩:=MI.1 V;have Z:x∈Az R:=by grind[Az]
 exact absurd Z (H.aE.neg (J x u));grind
def Ce.back{R d C}(h:Ce R d C){k}(H:k<=d):Ce (Bp R k) k C:=λj u J c E=>by rw[QL R Ad];exact h j u Ad c E
def Ce.cC{R d C}(h:Ce R d C)(J:∀r∈R,r.level<=d)(O:∀c,C c->Calm R c)(r)(T:r.level=d+1):Ce (R++[r]) (d+1) C:=λj u U c E=>by
 have e:Bp (R++[r]) j=Bp R j:=by
  unfold Bp;rw[y5];have:List.filter (λr=>decide (r.level<=j)) [r]=[]:=by simp_all
  rw[this,yg]
 rw[e];by_cases H:j<d;exact h j u H c E;grind[Aad]
def Ce.dy{R d C}(h:Ce R d C)(r)(J:r.level=d):Ce (R++[r]) d C:=λj u E c H=>by
 have e:Bp (R++[r]) j=Bp R j:=by
  unfold Bp;rw[y5];have:List.filter (λr=>decide (r.level<=j)) [r]=[]:=by simp_all
  rw[this,yg]
 rw[e];exact h j u E c H
def Ce.add{R d C}(h:Ce R d C){E}(O:∀j,0<=j->j<d->Calm (Bp R j) E):Ce R d λc=>C c\/c=E:=λj H J c u=>by rcases u with u|u;exact h j H J c u;simp_all
def Ce.less{R d C D}(h:Ce R d C)(u:∀c,D c->C c):Ce R d D:=λj E H c J=>h j E H c (u c J)
def Vv{R cl d k}(J:Bq R cl d){c y z}(E:y∈c)(H:z∈c)(O:y≠z)(T:k<=AR R (Ak y))(U:k<=AR R (Ak z)):∀j,j<k->Calm (Bp R j) c:=by
 have high:∀x∈c,k<=AR R (Ak x)->∀j,j<k->-x∉Az (Bp R j):=λx _ aa j u V=>by obtain⟨r,Z,e,ab⟩:=MI.1 V;obtain⟨i,hi⟩:=z0 Z;have:=(Dx J.aj hi).1;rw[e,Bk]at this;omega
 exactλj u=>.inr ⟨y,E,z,H,O,high y E T j u,high z H U j u⟩
structure By where
 af:Int->Option An
 two:Int->Option (Int×Int)
 aa:Int->An
 late:Int->Bool
 head:Nat
structure CK(T:An)(W:By):Prop where
 split:∀x c,W.af x=some c->(W.late x=true/\W.two x=none)\/(W.late x=false/\∃a b,W.two x=some (a,b)/\a≠b/\a∈c/\b∈c)
 out:∀x,W.af x=none->W.two x=none/\W.late x=false
 watch:∀x a b,W.two x=some (a,b)->x∈W.aa a/\x∈W.aa b
 only:∀x l,x∈W.aa l->∃a b,W.two x=some (a,b)/\(l=a\/l=b)
 once:∀l,(W.aa l).Nodup
 done:∀i y,i<W.head->T[i]? =some y->W.aa (-y)=[]
 head:W.head<=T.length
def CK.calm{R W}(h:CK (Az R) W)(H:W.head=(Az R).length)(J:∀x c,W.af x=some c->W.late x=true->∃y∈c,y∈Az R):∀x c,W.af x=some c->Calm R c:=by
 intro x c E;have free:∀a,x∈W.aa a->-a∉Az R:=λa u O=>by obtain⟨i,hi⟩:=z0 O;have:=h.done i (-a) (by rw[H];grind) hi;rw[aaa]at this;rw[this]at u;cases u
 rcases h.split x c E with⟨T,_⟩|⟨_,a,b,U,V,u,hb⟩;exact .inl (J x c E T);obtain⟨Z,aa⟩:=h.watch x a b U;exact .inr ⟨a,u,b,hb,V,free a Z,free b aa⟩
def CK.er{E u W}(h:CK E W){k}(O:k<=u.length)(H:∀i,i<k->u[i]? =E[i]?):CK u {W with head:=min W.head k}:=by refine⟨h.split,h.out,h.watch,h.only,h.once,λi y hi J=>?_,?_⟩;have T:i<min W.head k:=hi;exact h.done i y Ad (by rw[<-H i Ad];exact J);grind
def CK.grown{u W}(h:CK u W)(H):CK (u++H) W:=by refine⟨h.split,h.out,h.watch,h.only,h.once,λi y hi E=>?_,by rw[zu];have:=h.head;omega⟩;have:=h.head;rw[yh Ad]at E;exact h.done i y hi E
def CK.seen{u W}(h:CK u W){y}(H:u[W.head]? =some y)(hb:W.aa (-y)=[]):CK u {W with head:=W.head+1}:=by refine⟨h.split,h.out,h.watch,h.only,h.once,λi z hi E=>?_,?_⟩;have J:i<W.head+1:=hi;by_cases e:i=W.head;simp_all;exact h.done i z Ad E;grind
def CK.attach{H W}(h:CK H W){x c}(T:W.af x=none):CK H {W with af:=λz=>if z=x then some c else W.af z,late:=λz=>if z=x then true else W.late z}:=by obtain⟨U,V⟩:=h.out x T;refine⟨λz d E=>?_,λz E=>?_,h.watch,h.only,h.once,h.done,h.head⟩;have u:(if z=x then some c else W.af z)=some d:=E;by_cases e:z=x;simp_all;rw[zo e]at u;rcases h.split z d u with⟨J,O⟩|⟨J,O⟩;simp_all;simp_all;have u:(if z=x then some c else W.af z)=none:=E;by_cases e:z=x;rw[zq e]at u;simp_all;rw[zo e]at u;obtain⟨J,O⟩:=h.out z u;simp_all
def AE{u:Type}(f:Int->u)(x:Int)(v:u):Int->u:=λz=>if z=x then v else f z
theorem AO{u}(f x)(v:u):AE f x v x=v:=by unfold AE;rw[zq rfl]
theorem AK{u}(f){x z}(v:u)(h:z≠x):AE f x v z=f z:=by unfold AE;rw[zo h]
def AX(l:An)(x:Int):An:=l.filter λy=>decide (y≠x)
theorem Ee{l x z}:z∈AX l x↔z∈l/\z≠x:=by grind[AX]
def By.cg(W:By)(x l y other:Int)(left:Bool):By:={W with two:=AE W.two x (some (if left then(y,other)else(other,y))),aa:=AE (AE W.aa l (AX (W.aa l) x)) y (W.aa y++[x])}
def CK.cg{aa W}(h:CK aa W){x l y other c}(J:W.af x=some c){left:Bool}(H:W.two x=some (if left then(l,other)else(other,l)))(ak:y∈c)(al:y≠l)(am:y≠other)(ad:-y∉aa):CK aa (W.cg x l y other left):=by
 have an:l≠other:=by rcases h.split x c J with⟨_,g⟩|⟨_,a,b,g,ao,_,_⟩;rw[H]at g;cases g;grind
 have ae:W.late x=false:=by rcases h.split x c J with⟨_,g⟩|⟨g,_⟩;rw[H]at g;cases g;omega
 have aq:other∈c:=by rcases h.split x c J with⟨_,g⟩|⟨_,a,b,g,_,au,av⟩;rw[H]at g;cases g;grind
 have af:∀m,x∈W.aa m->m=l\/m=other:=λm T=>by obtain⟨a,b,g,e⟩:=h.only x m T;rw[H]at g;cases left<;>simp at g<;>omega
 have aw:x∈W.aa other:=by cases left;exact(h.watch x other l (by rw[H];rfl)).1;exact(h.watch x l other (by rw[H];rfl)).2
 have ax:x∉W.aa y:=λT=>by grind
 have ay:∀z m,z∈W.aa m->z≠x\/m≠l->z∈(W.cg x l y other left).aa m:=λz m E ag=>by show z∈AE (AE W.aa l (AX (W.aa l) x)) y (W.aa y++[x]) m;grind[AO,List.mem_append_left,AK,Ee]
 refine⟨λz d E=>?_,λz E=>?_,λz a b E=>?_,λz m E=>?_,λm=>?_,λi w hi ah=>?_,h.head⟩;by_cases e:z=x;subst e;have ab:W.af z=some d:=E;rw[J]at ab;cases ab;refine .inr ⟨ae,?_⟩;show∃a b,AE W.two z _ z=_/\_;rw[AO];grind;rcases h.split z d E with⟨U,V⟩|⟨U,a,b,V,aj⟩;exact .inl ⟨U,(AK _ _ e).trans V⟩;exact .inr ⟨U,a,b,(AK _ _ e).trans V,aj⟩;have e:z≠x:=λe=>by subst e;have u:W.af z=none:=E;rw[J]at u;simp_all
 exact⟨(AK _ _ e).trans (h.out z E).1,(h.out z E).2⟩;have u:AE W.two x (some (if left then(y,other)else(other,y))) z=some (a,b):=E;have az:x∈(W.cg x l y other left).aa y:=by show x∈AE (AE W.aa l (AX (W.aa l) x)) y (W.aa y++[x]) y;rw[AO];simp
 by_cases e:z=x;grind[AO];rw[AK _ _ e]at u;obtain⟨U,V⟩:=h.watch z a b u;simp_all;have u:z∈AE (AE W.aa l (AX (W.aa l) x)) y (W.aa y++[x]) m:=E;have Z:z∈W.aa m->z≠x\/m=other->∃a b,AE W.two x (some (if left then(y,other)else(other,y))) z=some (a,b)/\(m=a\/m=b):=λT ag=>by by_cases e:z=x;grind[AO];rw[AK _ _ e];exact h.only z m T
 by_cases e:m=y;subst e;rw[AO]at u;rcases zz.1 u with g|g;exact Z g (.inl λe=>by simp_all);rw[zy.1 g];show∃a b,AE W.two x _ x=_/\_;rw[AO];grind;rw[AK _ _ e]at u;by_cases O:m=l;subst O;rw[AO,Ee]at u;exact Z u.1 (.inl u.2);rw[AK _ _ O]at u;by_cases ac:z=x;subst ac;rcases af m u with g|g;omega;exact Z u (.inr g);exact Z u (.inl ac);show(AE (AE W.aa l (AX (W.aa l) x)) y (W.aa y++[x]) m).Nodup;by_cases e:m=y;subst e;rw[AO,y2];exact⟨h.once m,AG,λa aA b hb=>by grind⟩;rw[AK _ _ e];by_cases O:m=l;subst O;rw[AO];exact(h.once m).filter _;rw[AK _ _ O];exact h.once m;have aB:=h.done i w hi ah;show AE (AE W.aa l (AX (W.aa l) x)) y (W.aa y++[x]) (-w)=[];have e:-w≠y:=λe=>ad (by rw[<-e,aaa];grind);rw[AK _ _ e];grind[AO,AX,AK]
def By.watched(W:By)(x a b:Int):By:={W with two:=AE W.two x (some (a,b)),aa:=AE (AE W.aa a (W.aa a++[x])) b (W.aa b++[x]),late:=AE W.late x false}
def CK.watched{H W}(h:CK H W){x a b c}(U:W.af x=some c)(ag:W.late x=true)(ab:a≠b)(ac:a∈c)(hb:b∈c)(ah:-a∉H)(aj:-b∉H):CK H (W.watched x a b):=by
 have ad:W.two x=none:=by rcases h.split x c U with⟨_,g⟩|⟨g,_⟩;exact g;simp_all
 have ak:∀m,x∉W.aa m:=λm V=>by obtain⟨_,_,g,_⟩:=h.only x m V;rw[ad]at g;cases g
 have J:∀m,(W.watched x a b).aa m=if m=a\/m=b then W.aa m++[x]else W.aa m:=λm=>by show AE (AE W.aa a (W.aa a++[x])) b (W.aa b++[x]) m=_;by_cases e:m=b;subst e;rw[AO,zq (.inr rfl)];rw[AK _ _ e];by_cases Z:m=a;subst Z;rw[AO,zq (.inl rfl)];rw[AK _ _ Z,zo Ad]
 have al:∀z m,z∈W.aa m->z∈(W.watched x a b).aa m:=λz m u=>by rw[J];grind
 refine⟨λz d u=>?_,λz u=>?_,λz p q u=>?_,λz m u=>?_,λm=>?_,λi w hi aa=>?_,h.head⟩;by_cases e:z=x;subst e;have E:W.af z=some d:=u;rw[U]at E;cases E;exact .inr ⟨AO _ _ _,a,b,AO _ _ _,ab,ac,hb⟩;rcases h.split z d u with⟨O,T⟩|⟨O,p,q,T,ae⟩;exact .inl ⟨(AK _ _ e).trans O,(AK _ _ e).trans T⟩;exact .inr ⟨(AK _ _ e).trans O,p,q,(AK _ _ e).trans T,ae⟩;have e:z≠x:=λe=>by subst e;have E:W.af z=none:=u;rw[U]at E;simp_all
 exact⟨(AK _ _ e).trans (h.out z u).1,(AK _ _ e).trans (h.out z u).2⟩;have E:AE W.two x (some (a,b)) z=some (p,q):=u;by_cases e:z=x;subst e;rw[AO]at E;simp_all;rw[AK _ _ e]at E;obtain⟨O,T⟩:=h.watch z p q E;simp_all;rw[J]at u;show∃p q,AE W.two x (some (a,b)) z=some (p,q)/\_;have am:z∈W.aa m->∃p q,AE W.two x (some (a,b)) z=some (p,q)/\(m=p\/m=q):=λV=>by
  have e:z≠x:=λe=>by simp_all
  rw[AK _ _ e];exact h.only z m V
 by_cases e:m=a\/m=b;rw[zq e]at u;rcases zz.1 u with g|g;simp_all;rw[zy.1 g,AO];grind;simp_all;rw[J];split;rw[y2];exact⟨h.once m,AG,λp an q ao=>by grind⟩;exact h.once m;have af:=h.done i w hi aa;have aq:=zm aa;rw[J,zo];exact af;grind
def By.aO(W:By)(x a b:Int):By:={W with two:=AE W.two x none,aa:=AE (AE W.aa a (AX (W.aa a) x)) b (AX (W.aa b) x),late:=AE W.late x true}
def Iy(W:By)(x a b m):(W.aO x a b).aa m=if m=a\/m=b then AX (W.aa m) x else W.aa m:=by show AE (AE W.aa a (AX (W.aa a) x)) b (AX (W.aa b) x) m=_;by_cases e:m=b;subst e;rw[AO,zq (.inr rfl)];rw[AK _ _ e];by_cases u:m=a;subst u;rw[AO,zq (.inl rfl)];rw[AK _ _ u,zo Ad]
def CK.aO{T W}(h:CK T W){x a b c}(U:W.af x=some c)(V:W.two x=some (a,b)):CK T (W.aO x a b):=by
 have ac:∀m,x∉(W.aO x a b).aa m:=λm J=>by rw[Iy]at J;by_cases e:m=a\/m=b;rw[zq e,Ee]at J;omega;rw[zo e]at J;obtain⟨p,q,g,E⟩:=h.only x m J;rw[V]at g;simp_all
 have keep:∀z m,z∈W.aa m->z≠x->z∈(W.aO x a b).aa m:=λz m u ad=>by rw[Iy];grind[Ee]
 have Z:∀z m,z∈(W.aO x a b).aa m->z∈W.aa m:=λz m u=>by rw[Iy]at u;grind[Ee]
 refine⟨λz d u=>?_,λz u=>?_,λz p q u=>?_,λz m u=>?_,λm=>?_,λi w hi aa=>?_,h.head⟩;by_cases e:z=x;subst e;exact .inl ⟨AO _ _ _,AO _ _ _⟩;rcases h.split z d u with⟨H,E⟩|⟨H,p,q,E,ab⟩;exact .inl ⟨(AK _ _ e).trans H,(AK _ _ e).trans E⟩;exact .inr ⟨(AK _ _ e).trans H,p,q,(AK _ _ e).trans E,ab⟩;have e:z≠x:=λe=>by subst e;have O:W.af z=none:=u;rw[U]at O;simp_all
 exact⟨(AK _ _ e).trans (h.out z u).1,(AK _ _ e).trans (h.out z u).2⟩;have O:AE W.two x none z=some (p,q):=u;by_cases e:z=x;grind[AO];rw[AK _ _ e]at O;obtain⟨H,E⟩:=h.watch z p q O;simp_all;have e:z≠x:=λe=>by simp_all
 obtain⟨p,q,H,E⟩:=h.only z m (Z z m u);exact⟨p,q,(AK _ _ e).trans H,E⟩;rw[Iy];split;exact(h.once m).filter _;exact h.once m;have ae:=h.done i w hi aa;rw[Iy];grind[AX]
def V7{zd}(u:∀x∈zd,AV x 100000=0)(E:zd.Nodup)(H:zd.length<=1000):M8 zd 100000:=⟨Ad,H,u,E⟩
def Abk{id zd u}(E:1<=id)(H:id<=10000000)(J:M8 zd 100000)(O:u.length<=1000)(T:∀x∈u,1<=x/\x<=10000000):KM ⟨1,id,zd,u⟩:=⟨show 0<=id by omega,H,O,T,.inl ⟨rfl,E,J⟩⟩
def Vm{id u}(E:0<=id)(H:id<=10000000)(J:u.length<=1000)(O:∀x∈u,1<=x/\x<=10000000):KM ⟨2,id,[],u⟩:=⟨E,H,J,O,.inr ⟨rfl,rfl⟩⟩
def AdZ{R u}(E:u.Nodup)(H:∀x∈u,0<=x/\(C8 R x).isSome=true):u.Nodup/\UL R u:=⟨E,λx J=>(H x J).2⟩
def Qb{s:An}(H:s.Pairwise (· <·))(U:2<=s.length):∃k t,s[s.length-2]? =some k/\s[s.length-1]? =some t/\k∈s/\t∈s/\k<t/\∀m∈s,m<=t/\(m≠t->m<=k):=by
 have u:s.length-2<s.length:=Ad;have E:s.length-1<s.length:=Ad;have J:=xo.1 H;refine⟨s[s.length-2],s[s.length-1],zr u,zr E,aak u,aak E,J _ _ u E Ad,λm O=>?_⟩;obtain⟨i,hi,rfl⟩:=List.getElem_of_mem O;have le:∀(a b)(T)(hb:b<s.length),a<=b->s[a]<=s[b]:=λa b T hb V=>by grind
 grind
def Ze{R y}{rest s:An}{d}(J:s.Pairwise (· <·))(E:∀k,k∈s↔∃x∈y::rest,AR R (Ak x)=k)(Z:AR R (Ak y)=d)(aa:∀x∈rest,AR R (Ak x)<d):(rest=[]->s.length<2)/\(rest≠[]->2<=s.length/\∃k,s[s.length-2]? =some k/\k<d/\(∃z∈rest,AR R (Ak z)=k)/\∀x∈rest,AR R (Ak x)<=k):=by
 have H:=(E d).2 ⟨y,AG,Z⟩;refine⟨λe=>?_,λab=>?_⟩;subst e;rcases aab s.length 2 with h|h;exact h;obtain⟨k,t,_,_,u,O,ac,_⟩:=Qb J h;obtain⟨x,T,ad⟩:=(E k).1 u;obtain⟨z,U,ag⟩:=(E t).1 O;simp at T U;subst T U;omega;obtain⟨V,ae⟩:=List.exists_mem_of_ne_nil rest ab;have af:2<=s.length:=by
  have ah:=aa V ae;have u:=(E _).2 ⟨V,by simp_all,rfl⟩;match s,H,u with
  |[],H,_=>cases H
  |[a],H,u=> grind
  |_::_::_,_,_=>simp
 obtain⟨k,t,ad,_,u,O,ac,aj⟩:=Qb J af;have ak:t=d:=by grind
 grind
theorem Mr{R k}:∀r∈Bp R k,r.level<=k:=λr u=>by grind[Bp]
def Pu{R k}:∀r∈Bp R k,r∈R:=λ_ u=>(ye.1 u).1
def SP{R cl H d k p y rest}(u:Bq R cl d)(J:∀x∈y::rest,-x∈Az R)(U:(y::rest).Nodup)(af:AR R (Ak y)=d)(V:0<=k)(ag:k<d) (E:∀x∈rest,AR R (Ak x)<=k)(Z:0<=p)(aa:H p=some (y::rest))(ab:∀r∈R,0<=r.reason->H r.reason=cl r.reason):Bq (Bp R k++[⟨y,k,p⟩]) H k:=by
 have hb:=(u.back k (d':=k) Mr).clauses λr E=>ab r (Pu r E);have ze:∀x∈y::rest,∃(i:Nat)(r:AH),R[i]? =some r/\r.lit=-x/\AR R (Ak x)=r.level:=λx O=>by obtain⟨i,hi⟩:=z0 (J x O);obtain⟨r,E,e⟩:=EU hi;have T:=(Dx u.aj E).1;rw[e,Bk]at T;grind
 obtain⟨i,r,hi,ac,T⟩:=ze y AG;refine hb.snoc (l:=y) (lv:=k) (rs:=p) V ?_ (λs ad e=>?_) (aat _) (λ_=>Z) (λ_=>⟨_,aa,AG,U,λx O ah=>?_⟩) (λh=>Ad);have:=u.aE.1 _ (J y AG);rwa[Bk]at this;obtain⟨j,ae⟩:=z0 (Pu s ad);have:=Dk u.aj ae hi (by rw[e,ac,Bk]);grind[Mr];grind[MI,List.mem_of_getElem?]
def Yb{R n}(J:∀v,1<=v->v<=n->v∈Az R\/ -v∈Az R){c}(u:Calm R c)(E:∀x∈c,AV x n=0):∃x∈c,x∈Az R:=by rcases u with h|⟨x,H,_,_,_,O,_⟩;exact h;obtain⟨T,U,V,_,_,Z⟩:=AU (E x H);grind
def Bq.dy{R cl d p y c}(h:Bq R cl d)(u:0<=d)(E:0<=p)(H:cl p=some c)(J:Ak y≠0)(O:y∈c)(T:c.Nodup)(Z:y∉Az R)(aa:-y∉Az R) (U:∀x∈c,x≠y->-x∈Az R):Bq (R++[⟨y,d,p⟩]) cl d:=by refine h.snoc u J (λr V e=>?_) (aat _) (λ_=>E) (λ_=>⟨c,H,O,T,U⟩) (λe=>Ad);have ab:r.lit∈Az R:=zw.2 ⟨r,V,rfl⟩;grind[Ki]
def Bq.cC{R cl d y}(h:Bq R cl d)(E:0<=d)(H:Ak y≠0)(J:y∉Az R)(O:-y∉Az R):Bq (R++[⟨y,d+1,-1⟩]) cl (d+1):=by refine h.snoc E H (λr u e=>?_) Ad (λe=>Ad) (λe=>Ad) (λ_ r u e=>by have:=(h.low r u).2;omega);have T:r.lit∈Az R:=zw.2 ⟨r,u,rfl⟩;grind[Ki]
def Vf{R cl}(u:Bq R cl 0){zi full}(h:AbI R cl 0 zi full):full=[]:=by
 cases full with
 |nil=>rfl
 |cons x t=> obtain⟨i,r,hi,_,E⟩:=h.bw x AG;have:=(u.low r (zm hi)).2;omega
def AY(A:List Cf)(x:Int):Option An:=(A.find? (BR x)).map Cf.lits
theorem EZ{A x c}(h:AY A x=some c):∃r,A.find? (BR x)=some r/\r∈A/\r.pos=x/\r.live=true/\r.lits=c:=by unfold AY at h;rw[aae]at h;obtain⟨r,u,rfl⟩:=h;have E:=aa3 u;simp only[BR,z4,x3]at E;grind
theorem Wo{S}(h:CG S){r}(E:r∈S.rows)(O:r.live=true):S.rows.find? (BR r.pos)=some r:=by
 cases u:S.rows.find? (BR r.pos)with
 |none=> rw[y6]at u;grind[BR]
 |some s=> obtain⟨i,_,hi,H,_⟩:=FQ u;obtain⟨j,J⟩:=z0 E;have:=h.inj hi J H;simp_all
def AaP{S}(h:CG S){r}(u:r∈S.rows)(E:r.live=true):AY S.rows r.pos=some r.lits:=by grind[AY,Wo]
def WS{S}(h:CG S):∀r∈S.rows,0<=r.pos/\r.pos+3<=S.size:=by intro r u;obtain⟨i,hi⟩:=z0 u;have H:=h.pos i r hi;have E:=LH hi;rw[G9]at E;have J:=h.size;omega
def O5{S}(h:CG S){x}(H:S.size<=x\/x<0):S.rows.find? (BR x)=none:=by rw[y6];intro r u E;simp only[BR,z4,x3]at E;have:=WS h r u;omega
def KJ{S}(h:CG S){x c}(u:AY S.rows x=some c):0<=x/\x+3<=S.size:=by obtain⟨r,_,E,rfl,_⟩:=EZ u;exact WS h r E
theorem F5{S:Fb}{x r}(h:S.rows.find? (BR x)=some r):Bb S.rows x=r.id:=by unfold Bb;rw[h]
theorem JF{S id zd b}:(Du S id zd b).rows=S.rows++[⟨S.size,id,zd,b,true⟩]/\(Du S id zd b).size=S.size+3+zd.length:=⟨rfl,rfl⟩
def Adt{S}(h:CG S)(id zd b x):(S.rows++[(⟨S.size,id,zd,b,true⟩:Cf)]).find? (BR x)=if x=S.size then some ⟨S.size,id,zd,b,true⟩else S.rows.find? (BR x):=by
 rw[aci];by_cases e:x=S.size;subst e;rw[zq rfl,O5 h (.inl (aat _))];simp[BR];rw[zo e];have:List.find? (BR x) [(⟨S.size,id,zd,b,true⟩:Cf)]=none:=by rw[y6];intro r E u;rw[zy.1 E]at u;simp only[BR,z4,x3]at u;omega
 rw[this];cases S.rows.find? (BR x)<;>rfl
def Q7{S}(h:CG S)(id zd b x):AY (S.rows++[⟨S.size,id,zd,b,true⟩]) x=if x=S.size then some zd else AY S.rows x:=by unfold AY;rw[Adt h];split<;>rfl
def JT{S x r k}(u:S.rows.findIdx? (BR x)=some k)(J:S.rows[k]? =some r)(E:S.rows.find? (BR x)=some r):(Ds S x).rows=S.rows.set k {r with live:=false}/\(Ds S x).size=S.size:=by
 have H:Hm S x=0:=by unfold Hm;rw[E]
 unfold Ds;rw[zq H];unfold Nq;rw[u];simp_all
def RS{S}(h:CG S){x r}(H:S.rows.find? (BR x)=some r)(y):(Ds S x).rows.find? (BR y)=if y=x then none else S.rows.find? (BR y):=by
 obtain⟨k,T,E,U,ae⟩:=FQ H;rw[(JT T E H).1];have af:=(zl.1 E).1;have get:∀i s,(S.rows.set k {r with live:=false})[i]? =some s->(i=k/\s={r with live:=false})\/(i≠k/\S.rows[i]? =some s):=λi s hi=>by grind
 by_cases e:y=x;subst e;rw[zq rfl,y6];intro s V u;obtain⟨i,hi⟩:=z0 V;simp only[BR,z4,x3]at u;rcases get i s hi with⟨_,rfl⟩|⟨Z,aa⟩;simp_all;exact Z (h.inj aa E (by rw[u.1,U]));rw[zo e];cases J:S.rows.find? (BR y)with
 |none=> rw[y6]at J⊢;grind[List.getElem?_of_mem,BR,List.mem_of_getElem?]
 |some s=>
  obtain⟨i,ag,hi,u,ah⟩:=FQ J;have aj:i≠k:=by grind
  cases O:(S.rows.set k {r with live:=false}).find? (BR y)with
  |none=> rw[y6]at O;have ak:s∈S.rows.set k {r with live:=false}:=zm (i:=i) (by rw[y3 Ad];exact hi);grind
  |some t=> obtain⟨j,_,ab,ac,_⟩:=FQ O;rcases get j t ab with⟨_,rfl⟩|⟨_,ad⟩;simp_all;have:=h.inj ad hi (by rw[ac,u]);simp_all
def Adg{S}(h:CG S){x r}(u:S.rows.find? (BR x)=some r)(y):AY (Ds S x).rows y=if y=x then none else AY S.rows y:=by unfold AY;rw[RS h u];split<;>rfl
def KZ{A p}:p∈Bv A↔∃r∈A,r.live=true/\r.id=p.1/\r.lits=p.2:=by grind[Bv]
theorem RL{A}(h:Ga (Bv A)){r}(u:r∈A)(E:r.live=true):C8 (Bv A) r.id=some r.lits:=Agm h (r.id,r.lits) (KZ.2 ⟨r,u,E,rfl,rfl⟩)
theorem OZ:∀{A}{k}{r},A[k]? =some r->r.live=true->Ga (Bv A)->Bv (A.set k {r with live:=false})=CQ (Bv A) [r.id]
 |[],_,_,h,_,_=>by simp_all
 |a::A,0,r,h,H,u=>by
  simp at h;subst h;have E:Bv (a::A)=(a.id,a.lits)::Bv A:=by grind[Bv,List.filter_cons_of_pos]
  have O:Bv ((a::A).set 0 {a with live:=false})=Bv A:=by unfold Bv;rw[List.set_cons_zero,aao AG]
  rw[O,E];rw[E]at u;unfold Ga Pv at u;rw[xn,abv]at u;unfold CQ;rw[aao (by simp[Bd]),x9.2];intro p T;have:=u.1 p.1 (zw.2 ⟨p,T,rfl⟩);grind[Bd]
 |a::A,k+1,r,h,H,u=>by
  have J:A[k]? =some r:=by simp_all
  rw[List.set_cons_succ];by_cases U:a.live=true;have E:∀B,Bv (a::B)=(a.id,a.lits)::Bv B:=λB=>by grind[Bv,List.filter_cons_of_pos]
  rw[E]at u;unfold Ga Pv at u;rw[xn,abv]at u;rw[E,E,OZ J H u.2];unfold CQ;have V:=u.1 r.id (zw.2 ⟨(r.id,r.lits),KZ.2 ⟨r,zm J,H,rfl,rfl⟩,rfl⟩);have Z:=V;rw[aap (by grind[Bd])];have E:∀B,Bv (a::B)=Bv B:=λB=>by unfold Bv;rw[aao (by simpa using U)]
  rw[E]at u;rw[E,E];exact OZ J H u
def Mx{S x r}(J:Ga (Bv S.rows))(u:S.rows.find? (BR x)=some r):Bv (Ds S x).rows=CQ (Bv S.rows) [r.id]:=by obtain⟨k,E,H,_,O⟩:=FQ u;rw[(JT E H u).1];grind[OZ]
def Vy(R a b):CQ (CQ R a) b=CQ R (a++b):=by unfold CQ;rw[ac4];apply acj;intro p _;simp only[Bd,abx];cases List.any a (· ==p.1)<;>cases List.any b (· ==p.1)<;>rfl
def Kt{R}(h:Good (Az R)){l}:CJ R l=1↔l∈Az R:=by
 unfold CJ;cases E:R.find? (JO l)with
 |none=> rw[y6]at E;refine⟨(λe=>by cases e),λu=>?_⟩;obtain⟨r,H,e⟩:=zw.1 u;grind[JO]
 |some r=> have H:=y0 E;have u:r.lit∈Az R:=zw.2 ⟨r,H,rfl⟩;simp only;by_cases e:r.lit=l;rw[zq e];simp_all;rw[zo e];refine⟨(λe=>by cases e),λO=>?_⟩;have J:=aa3 E;simp only[JO,abg,x3]at J;have T:=J.resolve_left e;rw[T]at u;exact absurd O (h.neg u)
def IR(R l):CJ R l=1\/CJ R l=0\/CJ R l=-1:=by grind[CJ,JO]
def EH{R}(h:Good (Az R)){l}:CJ R l<0↔-l∈Az R:=by
 unfold CJ;cases E:R.find? (JO l)with
 |none=> rw[y6]at E;refine⟨(λe=>by simp_all),λu=>?_⟩;obtain⟨r,H,e⟩:=zw.1 u;grind[JO]
 |some r=> have H:=y0 E;have u:r.lit∈Az R:=zw.2 ⟨r,H,rfl⟩;have J:=aa3 E;simp only[JO,abg,x3]at J;simp only;by_cases e:r.lit=l;rw[zq e];refine⟨(λe=>Ad),λO=>?_⟩;rw[e]at u;exact absurd u (h.neg O);simp_all
def BX(R:List AH)(c:An):An:=c.filter λl=>decide (0<=CJ R l)
def CN(R:List AH)(c:An):Bool:=c.any λl=>CJ R l==1
def GM{R}(h:Good (Az R)){c l}:l∈BX R c↔l∈c/\-l∉Az R:=by unfold BX;rw[ye,z8,<-EH h];exact⟨λ⟨a,b⟩=>⟨a,Ad⟩,λ⟨a,b⟩=>⟨a,Ad⟩⟩
def QG{R}(h:Good (Az R)){c}:CN R c=true↔∃y∈c,y∈Az R:=by unfold CN;rw[y7];exact⟨λ⟨y,u,e⟩=>⟨y,u,(Kt h).1 (by simpa using e)⟩,λ⟨y,u,e⟩=>⟨y,u,by simpa using(Kt h).2 e⟩⟩
structure EK(n d)(cl)(R)(W):Prop where
 az:DW ⟨n,R,d⟩
 ah:Bq R cl d
 aG:CK (Az R) W
 at_:∀x,W.af x=cl x
 ok:∀x c,cl x=some c->(0<=x/\x<=Bh)/\c.Nodup/\∀l∈c,AV l n=0
def Grown(d:Int)(R R':List AH):Prop:=∃u,R'=R++u/\∀r∈u,r.level=d/\0<=r.reason
def Grown.refl(d R):Grown d R R:=⟨[],AG,AG⟩
def Grown.trans{d a b c}(h:Grown d a b)(k:Grown d b c):Grown d a c:=by obtain⟨u,rfl,E⟩:=h;obtain⟨v,rfl,H⟩:=k;exact⟨u++v,AG,λr J=>(zz.1 J).elim (E r) (H r)⟩
def Grown.lits{d R R'}(h:Grown d R R'){y}(E:y∈Az R):y∈Az R':=by obtain⟨u,rfl,_⟩:=h;grind[Az,List.mem_append_left]
def Grown.calm{d C R R'}(h:Grown d R R')(hb:Ce R d C):Ce R' d C:=by
 obtain⟨u,rfl,E⟩:=h;induction u generalizing R with
 |nil=>rwa[yg]
 |cons r u H=> have e:R++r::u=(R++[r])++u:=AG;rw[e];exact H (hb.dy r (E r AG).1) (λs J=>E s (by simp_all))
def Grown.eQ{d R R'}(h:Grown d R R'){j}(H:j<d):Bp R' j=Bp R j:=by
 obtain⟨u,rfl,J⟩:=h;unfold Go.Proofs.YtdmempceikifeaaGreat.Bp;have E:u.filter (λr=>decide (r.level<=j))=[]:=by rw[aas];simp_all
 rw[y5,E,yg]
section
variable{n d}{cl}{R}{W}{x a b}{c t}
theorem EK.bw(h:EK n d cl R W)(E:BX R c=[]):∀l∈c,-l∈Az R:=λl H=>by by_cases u:-l∈Az R;exact u;have:l∈BX R c:=(GM h.ah.aE).2 ⟨H,u⟩;rw[E]at this;simp_all
theorem EK.two(h:EK n d cl R W)(E:cl x=some c)(O:W.late x=true)(u:BX R c=a::b::t):EK n d cl R (W.watched x a b):=by have H:=(GM h.ah.aE).1 (u▸yx ..:a∈BX R c);have hb:=(GM h.ah.aE).1 (u▸yj _ (yx ..):b∈BX R c);have J:(BX R c).Nodup:=(h.ok x c E).2.1.filter _;rw[u,xx]at J;have T:a≠b:=λe=>J.1 (by rw[e];simp);exact⟨h.az,h.ah,h.aG.watched (by rw[h.at_];exact E) O T H.1 hb.1 H.2 hb.2,h.at_,h.ok⟩
theorem EK.holds(h:EK n d cl R W)(u:CN R c=true):∃y∈c,y∈Az R:=(QG h.ah.aE).1 u
theorem EK.one(h:EK n d cl R W)(O:cl x=some c)(T:BX R c=[a])(V:CN R c=false):Gx ⟨n,R,d⟩ a x=0/\EK n d cl (R++[⟨a,d,x⟩]) W/\a∈c/\a∈Az (R++[⟨a,d,x⟩]):=by
 have H:=h.ah.aE;obtain⟨E,Z⟩:=(GM H).1 (T▸yx ..:a∈BX R c);obtain⟨J,aa,ab⟩:=h.ok x c O;have ac:a∉Az R:=λu=>by have:=(QG H).2 ⟨a,E,u⟩;rw[V]at this;simp_all
 have ad:=ab a E;obtain⟨am,an,ao,_,_,aq⟩:=AU ad;have ae:∀r∈R,Ak r.lit≠Ak a:=λr af e=>by have u:r.lit∈Az R:=zw.2 ⟨r,af,rfl⟩;grind[Ki]
 have au:Df ⟨n,R,d⟩ a=0:=by unfold Df;rw[zo (by simp_all),zo (Hn.2 ae)]
 have U:Gx ⟨n,R,d⟩ a x=0:=by unfold Gx;rw[zo Ad,zo (by have:=J.1;omega)]
 have ag:=λy ah aj=>by by_cases u:-y∈Az R;exact u;have:y∈BX R c:=(GM H).2 ⟨ah,u⟩;rw[T]at this;exact absurd (zy.1 this) aj
 have ak:=h.ah.dy (p:=x) (y:=a) h.az.d0 J.1 O Ad E aa ac Z ag;have al:DW ⟨n,R++[⟨a,d,x⟩],d⟩:=by have:=h.az.imp a J.2;unfold Hw at this;rw[zq U]at this;omega
 refine⟨U,⟨al,ak,?_,h.at_,h.ok⟩,E,by rw[JU];simp⟩;rw[JU];exact h.aG.grown [a]
end
structure US(R)(cl)(d)(zi full:An):Prop where
 perm:full.Perm (IY R cl d zi)
 top:∀y∈full,(∀x∈full,x≠y->AR R (Ak x)<AR R (Ak y))->full.head? =some y
def Fi{l:An}(h:(l.map Ak).Nodup):l.Nodup:=(x2.1 h).imp λu e=>u (by rw[e])
def FU.perm{R cl A B}(h:A.Perm B){x}(u:FU R cl A x):FU R cl B x:=u.mono λ_ E=>h.mem_iff.1 E
def SL{R}{l:An}(h:∀x∈l,∃(i:Nat)(r:AH),R[i]? =some r/\r.lit=-x):∀x∈l,-x∈Az R:=λx u=>by obtain⟨i,r,hi,e⟩:=h x u;exact zw.2 ⟨r,zm hi,e⟩
def C6{R}{l:An}(h:∀x∈l,-x∈Az R):∀x∈l,∃(i:Nat)(r:AH),R[i]? =some r/\r.lit=-x:=λx u=>by grind[List.getElem?_of_mem,EU]
structure MA(R)(cl)(d:Int)(zi zd:An):Prop where
 bw:∀x∈zd,-x∈Az R
 vars:(zd.map Ak).Nodup
 cK:∀x∈zi,FU R cl zd x
 zero:d=0->zd=[]
 head:1<=d->∃y rest,zd=y::rest/\AR R (Ak y)=d/\∀x∈rest,AR R (Ak x)<d
def YR{R cl d C}(J:Bq R cl d)(hb:Ce R d C){zi full}(ag:C zi)(ah:∀x∈zi,Ak x≠0)(V:∀x∈zi,-x∈Az R) (E:US R cl d zi full):MA R cl d zi (D9 R cl full):=by
 have H:=Jq J (zi:=zi) λx u=>⟨ah x u,C6 V x u⟩;have Z:∀x∈full,∃(i:Nat)(r:AH),R[i]? =some r/\r.lit=-x:=λx u=>by obtain⟨i,r,O,aj,_⟩:=H.bw x (E.perm.mem_iff.1 u);exact⟨i,r,O,aj⟩
 have aa:=Lx (R:=R) (cl:=cl) (zd:=full);have ab:=(E.perm.map Ak).nodup_iff.2 H.vars;refine⟨λx u=>SL Z x (aa.subset u),ab.sublist (aa.map _),λx u=>?_,λak=>?_,λO=>?_⟩;exact((H.cK x u).perm E.perm.symm).trans λy U=>X0 J Z y U;subst ak;have:=Vf J H;have ac:=E.perm;rw[this]at ac;have e:=List.Perm.eq_nil ac;rw[e];rfl;obtain⟨y,U,ad,ae⟩:=H.one O (SU J O hb ag V);have al:=E.perm.mem_iff.2 U;have T:=E.top y al λx u am=>by rw[ad];exact ae x (E.perm.mem_iff.1 u) am
 match ao:full,T with
 |z::t,T=> simp at T;subst T;have an:=Fi ab;refine⟨z,_,rfl,ad,λx u=>?_⟩;have af:=(ye.1 u).1;exact ae x (E.perm.mem_iff.1 (yj _ af)) λe=>(xx.1 an).1 (e▸af)
def FO(R:List AH)(M:Nat->Bool)(at_:Int):An:=(EP R M).map (λi=>match R[i]? with|some r=>r.reason|none=>0)++[at_]
def U4{L P S id n d at_ R zi zd M}(H:Told L P S.rows id)(ac:CG S)(ad:DW ⟨n,R,d⟩)(V:Bq R (AY S.rows) d) (ax:n<=900)(hid:id<10000000)(ay:AY S.rows at_=some zi)(u:MA R (AY S.rows) d zi zd)(ae:Jf R (AY S.rows) zd M)(O:∀x∈zi,x∈zd\/∃(j:Nat)(s:AH),M j=true/\R[j]? =some s/\s.lit=-x)(pos):Told L (P++[⟨1,id+1,zd,(FO R M at_).map (Bb S.rows)⟩]) (S.rows++[⟨pos,id+1,zd,true,true⟩]) (id+1)/\M8 zd 100000/\zd.length<=900/\∀x∈zd,AV x n=0:=by
 have ak:=H.inv.low;rw[H.last]at ak;have al:=H.inv.bj;rw[H.rows]at al;have af:∀x∈zd,AV x n=0:=λx E=>by obtain⟨i,r,hi,e⟩:=C6 u.bw x E;have J:=ad.lits r (zm hi);have U:AV r.lit n=0:=J;rw[e]at U;have am:=AU U;grind[AV,Ak]
 have az:R.length<=900:=by
  have Z:∀v∈R.map (λr=>Ak r.lit),v∈(List.range n.toNat).map (λk=>((k+1:Nat):Int)):=λv aa=>by obtain⟨r,an,rfl⟩:=zw.1 aa;have J:=AU (ad.lits r an);have U:Ak r.lit<=n:=J.2.1;exact zw.2 ⟨(Ak r.lit-1).toNat,by rw[zv];omega,Ad⟩
  have:=yf V.aj Z;grind
 have ao:zd.length<=900:=by
  have Z:∀v∈zd.map Ak,v∈R.map (λr=>Ak r.lit):=λv aa=>by obtain⟨x,E,rfl⟩:=zw.1 aa;obtain⟨i,r,hi,e⟩:=C6 u.bw x E;exact zw.2 ⟨r,zm hi,by rw[e,Bk]⟩
  have:=yf u.vars Z;grind
 have ag:=V7 (λx E=>by have J:=af x E;have U:=AU J;grind[AV,Ak]) (Fi u.vars) Ad;have ah:∀p c,AY S.rows p=some c->∃r∈S.rows,r.live=true/\Bb S.rows p=r.id/\r.lits=c/\C8 (Bv S.rows) r.id=some c:=λp c T=>by grind[EZ,F5,RL]
 have aA:∀i∈EP R M,∃r c,R[i]? =some r/\AY S.rows r.reason=some c/\Io R (AY S.rows) i=c:=λi hi=>by unfold EP at hi;rw[ye]at hi;obtain⟨r,c,J,_,am,_⟩:=ae i hi.2;grind[Io]
 have aj:∀p∈FO R M at_,∃c,AY S.rows p=some c:=λp T=>by grind[FO,List.mem_singleton]
 have aq:FG (Bv S.rows) ((FO R M at_).map (Bb S.rows))=(EP R M).map (Io R (AY S.rows))++[zi]:=by unfold FG FO;rw[yo,yo,ac5,ac5];congr 1;grind[List.map_congr_left];simp;grind
 have aB:=Xf V (out:=zd) (zi:=zi) (M:=M) u.bw ae O;have au:=Oz V.aE u.bw;have av:EG zd=false:=by unfold Dc at au;cases hb:G6 zd<;>cases H:EG zd<;>simp_all
 refine⟨H.add (Abk Ad Ad ag ?_ ?_) av ?_ (by rw[aq];omega),ag,ao,af⟩;rw[z2];grind[FO,EP,List.length_append,List.length_map,List.length_filter_le,List.length_range];intro x E;obtain⟨p,T,rfl⟩:=zw.1 E;obtain⟨c,O⟩:=aj p T;obtain⟨s,u,_,ab,_⟩:=ah _ _ O;rw[ab];exact(ac.ok s u).1;intro x E;obtain⟨p,T,rfl⟩:=zw.1 E;obtain⟨c,O⟩:=aj p T;obtain⟨s,u,_,ab,_,aw⟩:=ah _ _ O;rw[ab,aw];have:=(ac.ok s u).1;grind
def Xj{R cl d}(h:Bq R cl d){i j:Nat}{r s}(hi:R[i]? =some r)(u:R[j]? =some s)(E:0<=r.reason)(H:r.reason=s.reason):i=j:=by obtain⟨c,V,y,Z,ad,_,aa⟩:=h.aY i r hi E;obtain⟨c',J,z,O,ab,_,_⟩:=h.aY j s u (H▸E);rw[<-H,V]at J;cases J;have T:=Co hi;have U:=Co u;rw[Z]at T;rw[O]at U;cases T;cases U;by_cases e:s.lit=r.lit;exact Dk h.aj hi u (by rw[e]);obtain⟨k,_,ac⟩:=aa _ ab e;exact absurd (zm O) (h.aE.neg (zm ac))
def Rz{R cl d}(h:Bq R cl d){i:Nat}{r}(hi:R[i]? =some r)(E:0<=r.reason){at_ zi}(H:cl at_=some zi)(J:∀x∈zi,-x∈Az R):r.reason≠at_:=by intro e;obtain⟨c,u,y,O,T,_,_⟩:=h.aY i r hi E;rw[e,H]at u;cases u;exact h.aE.neg (J y T) (zm O)
structure Cv where
 R:List AH
 d:Int
 A:Fb
 W:By
 seen:An
 row:An
 P:List Cz
 id:Int
def Cv.C(E:Cv)(c:An):Prop:=∃x,AY E.A.rows x=some c
structure C0(L:AT)(n)(E:Cv):Prop where
 az:DW ⟨n,E.R,E.d⟩
 ah:Bq E.R (AY E.A.rows) E.d
 bX:∀j,1<=j->j<=E.d->∃r∈E.R,r.level=j
 aS:CG E.A
 cls:∀r∈E.A.rows,r.lits.Nodup/\∀x∈r.lits,AV x n=0
 len:(E.A.rows.length:Int)=E.id
 af:∀x,E.W.af x=AY E.A.rows x
 aG:CK E.seen E.W
 calm:Ce E.R E.d E.C
 bj:Ga (Bv E.A.rows)
 num:∀(i:Nat)(r),E.A.rows[i]? =some r->r.id=i+1
 given:∀c∈L,∃r∈E.A.rows,r.live=true/\r.cp=false/\r.lits=c
 free:∀v,1<=v->v<=n->(∀r∈E.R,Ak r.lit≠v)->v∈E.row
def Uf{R:List AH}{d}(h:∀j,1<=j->j<=d->∃r∈R,r.level=j):d<=R.length:=by
 rcases Int.lt_or_le d 0 with u|u;omega;obtain⟨m,rfl⟩:=y1 u;have H:((List.range m).map (λk=>((k+1:Nat):Int))).Nodup:=by refine x2.2 (aba.imp λJ e=>J ?_);omega
 have O:∀x∈(List.range m).map (λk=>((k+1:Nat):Int)),x∈R.map AH.level:=λx T=>by obtain⟨k,U,rfl⟩:=zw.1 T;rw[zv]at U;obtain⟨r,V,e⟩:=h ((k+1:Nat):Int) Ad Ad;grind
 have:=yf H O;simp_all
def D5{n d R}(h:DW ⟨n,R,d⟩):(R.length:Int)<=n:=by
 have u:∀v∈R.map (λr=>Ak r.lit),v∈(List.range n.toNat).map (λk=>((k+1:Nat):Int)):=λv H=>by obtain⟨r,J,rfl⟩:=zw.1 H;have O:=AU (h.lits r J);have T:Ak r.lit<=n:=O.2.1;exact zw.2 ⟨(Ak r.lit-1).toNat,by rw[zv];omega,Ad⟩
 have:=yf h.nodup u;simp at this;have U:0<=n:=h.v0;omega
section
variable{L}{n}{E}
theorem C0.ey(h:C0 L n E):∀r∈E.A.rows,r.id<=E.id:=λr u=>by obtain⟨i,hi⟩:=z0 u;have H:=h.num i r hi;have J:=h.len;have O:=(zl.1 hi).1;omega
theorem C0.ok(h:C0 L n E):∀x c,AY E.A.rows x=some c->c.Nodup/\∀l∈c,AV l n=0:=λx c u=>by obtain⟨r,_,H,_,_,rfl⟩:=EZ u;exact h.cls r H
theorem C0.back(h:C0 L n E){k}(ae:0<=k)(V:k<=E.d){ze}(J:∀v,v∈E.row->v∈ze)(Z:∀r∈Fy E.R k,Ak r.lit∈ze):C0 L n {E with R:=Bp E.R k,d:=k,row:=ze}:=by
 have hb:=h.az.back k;have aa:Ez k=k:=by unfold Ez;rw[zo Ad]
 unfold GH at hb;simp only[aa]at hb;have ab:(if k<E.d then k else E.d)=k:=by split<;>omega
 rw[ab]at hb;refine⟨hb,h.ah.back k Mr,λj O u=>?_,h.aS,h.cls,h.len,h.af,h.aG,h.calm.back V,h.bj,h.num,h.given,λv O u ac=>?_⟩;obtain⟨r,J,e⟩:=h.bX j O (by have:j<=k:=u;omega);exact⟨r,ye.2 ⟨J,by have:j<=k:=u;simp_all⟩,e⟩;by_cases T:∀r∈E.R,Ak r.lit≠v;exact J v (h.free v O u T);obtain⟨r,ad⟩:=Classical.not_forall.1 T;obtain⟨U,H⟩:=Classical.not_imp.1 ad;have H:=Classical.not_not.1 H;by_cases af:r.level<=k;exact absurd H (ac r (ye.2 ⟨U,by simp_all⟩));rw[<-H];exact Z r (ye.2 ⟨U,by simp_all⟩)
theorem C0.add(h:C0 L n E){zd b}(V:KE (E.id+1) zd)(ae:zd.Nodup)(af:∀x∈zd,AV x n=0)(H:∀j,0<=j->j<E.d->Calm (Bp E.R j) zd) (Z:CG (Du E.A (E.id+1) zd b)):C0 L n {E with A:=Du E.A (E.id+1) zd b,W:={E.W with af:=λz=>if z=E.A.size then some zd else E.W.af z,late:=λz=>if z=E.A.size then true else E.W.late z},id:=E.id+1}:=by
 have J:=(JF (S:=E.A) (b:=b) (id:=E.id+1) (zd:=zd)).1;have T:∀x,AY (Du E.A (E.id+1) zd b).rows x=if x=E.A.size then some zd else AY E.A.rows x:=λx=>by rw[J];exact Q7 h.aS _ _ _ x
 have aa:E.W.af E.A.size=none:=by rw[h.af];unfold AY;rw[O5 h.aS (.inl (aat _))];rfl
 have ab:∀x c,AY E.A.rows x=some c->x≠E.A.size:=λx c U=>by have:=KJ h.aS U;omega
 refine⟨h.az,h.ah.clauses λr u ac=>?_,h.bX,Z,?_,?_,λx=>?_,h.aG.attach aa,?_,?_,?_,?_,h.free⟩;obtain⟨i,hi⟩:=z0 u;obtain⟨c,H,_⟩:=h.ah.aY i r hi ac;show AY (Du E.A (E.id+1) zd b).rows r.reason=_;rw[T,zo (ab _ _ H)];show∀r∈(Du E.A (E.id+1) zd b).rows,_;rw[J];intro r u;rcases zz.1 u with u|u;exact h.cls r u;simp_all;show((Du E.A (E.id+1) zd b).rows.length:Int)=E.id+1;rw[J,zu];have:=h.len;simp_all;show(if x=E.A.size then some zd else E.W.af x)=AY (Du E.A (E.id+1) zd b).rows x;rw[T,h.af];refine(h.calm.add H).less λc H=>?_;obtain⟨x,U⟩:=H;have O:=U;rw[T]at O;by_cases e:x=E.A.size;rw[zq e]at O;simp_all;rw[zo e]at O;exact .inl ⟨x,O⟩;show Ga (Bv (Du E.A (E.id+1) zd b).rows);rw[J,Mp _ _ rfl];refine Pz h.bj (n:=E.id) (λp V=>?_) (by grind);obtain⟨r,u,_,e,_⟩:=KZ.1 V;rw[<-e];exact h.ey r u;show∀(i:Nat)(r),(Du E.A (E.id+1) zd b).rows[i]? =some r->r.id=i+1;rw[J];intro i r hi;rcases aab i E.A.rows.length with ad|ag;rw[yh ad]at hi;exact h.num i r hi;have hb:=(zl.1 hi).1;rw[zu,List.length_singleton]at hb;have e:i=E.A.rows.length:=Ad;subst e;rw[yi (zs _),adn]at hi;simp at hi;have:=h.len;rw[<-hi];simp_all;intro c H;obtain⟨r,u,e⟩:=h.given c H;grind
theorem C0.grown(h:C0 L n E){R' W' seen'}(T:Grown E.d E.R R')(V:DW ⟨n,R',E.d⟩)(Z:Bq R' (AY E.A.rows) E.d)(aa:CK seen' W')(ab:∀x,W'.af x=AY E.A.rows x):C0 L n {E with R:=R',W:=W',seen:=seen'}:=by
 have ac:=T.calm h.calm;have U:∀r∈E.R,r∈R':=by obtain⟨u,rfl,_⟩:=T;simp_all
 exact⟨V,Z,λj H J=>let⟨r,O,e⟩:=h.bX j H J;⟨r,U r O,e⟩,h.aS,h.cls,h.len,ab,aa,ac,h.bj,h.num,h.given,λv H J ad=>h.free v H J λr O=>ad r (U r O)⟩
theorem C0.cC(h:C0 L n E)(Z:∀c,E.C c->Calm E.R c){y}(H:Df ⟨n,E.R,E.d⟩ y=0){ze}(u:∀v,v∈E.row->v=Ak y\/(∃r∈E.R,Ak r.lit=v)\/v∈ze):C0 L n {E with R:=E.R++[⟨y,E.d+1,-1⟩],d:=E.d+1,row:=ze}:=by
 obtain⟨aa,ae⟩:=QM H;have ab:=aa;obtain⟨af,ag,ah,_,_,aj⟩:=AU ab;have J:=h.az.dec y;unfold Ji at J;rw[zq H]at J;have U:∀z,z∈Az E.R->Ak z≠Ak y:=λz ac e=>by obtain⟨r,u,rfl⟩:=zw.1 ac;simp_all
 refine⟨J,h.ah.cC h.az.d0 Ad (λH=>U y H rfl) (λH=>U _ H (Bk y)),λj O T=>?_,h.aS,h.cls,h.len,h.af,h.aG,?_,h.bj,h.num,h.given,λv O T V=>?_⟩;have ak:j<=E.d+1:=T;by_cases e:j=E.d+1;simp_all;obtain⟨r,u,al⟩:=h.bX j O Ad;grind;exact h.calm.cC (λr u=>(h.ah.low r u).2) Z ⟨y,E.d+1,-1⟩ rfl;have am:=V ⟨y,E.d+1,-1⟩ AG;have ad:=λr u=>V r (yp _ u);rcases u v (h.free v O T ad)with e|⟨r,an,e⟩|e;simp_all;simp_all;omega
theorem C0.resolved(h:C0 L n E){zi k}(ac:1<=E.d){y rest}(u:MA E.R (AY E.A.rows) E.d zi (y::rest))
 (T:k=0/\rest=[]\/∃z∈rest,AR E.R (Ak z)=k/\∀x∈rest,AR E.R (Ak x)<=k):0<=k/\k<E.d/\(∀j,0<=j->j<k->Calm (Bp E.R j) (y::rest))/\
  Df ⟨n,Bp E.R k,k⟩ y=0/\∀(A':Fb)(p),0<=p->AY A'.rows p=some (y::rest)->(∀r∈E.R,0<=r.reason->AY A'.rows r.reason=AY E.A.rows r.reason)->Bq (Bp E.R k++[⟨y,k,p⟩]) (AY A'.rows) k:=by
 obtain⟨ao,aq,e,ad,au⟩:=u.head ac
 cases e
 have U:=Fi u.vars
 have ze:∀x∈y::rest,∃(i:Nat)(r:AH),E.R[i]? =some r/\r.lit=-x/\AR E.R (Ak x)=r.level:=λx ae=>by
  obtain⟨i,r,hi,e⟩:=C6 u.bw x ae
  have J:=(Dx h.ah.aj hi).1
  rw[e,Bk]at J
  grind
 have V:0<=k:=by
  rcases T with⟨rfl,_⟩|⟨z,H,af,_⟩
  omega
  obtain⟨i,r,hi,_,J⟩:=ze z (yj _ H)
  have:=(h.ah.low r (zm hi)).1
  omega
 have Z:k<E.d:=by
  grind
 have ag:∀x∈rest,AR E.R (Ak x)<=k:=by
  grind
 refine⟨V,Z,λj av O=>?_,?_,λA' p ah aj ak=>SP h.ah u.bw U ad V Z ag ah aj ak⟩
 rcases T with⟨rfl,_⟩|⟨z,H,af,_⟩
 omega
 have al:y≠z:=λe=>(xx.1 U).1 (e▸H)
 exact Vv h.ah (k:=k) AG (yj _ H) al Ad Ad j O
 obtain⟨i,r,hi,e,J⟩:=ze y AG
 have aw:AV y n=0:=by
  have am:=h.az.lits r (zm hi)
  have aa:AV r.lit n=0:=am
  rw[e]at aa
  have ax:=AU aa
  grind[AV,Ak]
 unfold Df
 rw[zo (by simp_all),zo]
 refine Hn.2 λs ab an=>?_
 have ay:=Mr s ab
 obtain⟨j,O⟩:=z0 (Pu s ab)
 have:=Dk h.ah.aj O hi (by rw[an,e,Bk])
 grind
end
def By.gone(W:By)(x:Int):By:={W with af:=λz=>if z=x then none else W.af z,late:=AE W.late x false}
def CK.gone{T W}(h:CK T W){x}(U:W.two x=none):CK T (W.gone x):=by refine⟨λz c H=>?_,λz H=>?_,h.watch,h.only,h.once,h.done,h.head⟩;have u:(if z=x then none else W.af z)=some c:=H;by_cases e:z=x;rw[zq e]at u;simp_all;rw[zo e]at u;rcases h.split z c u with⟨J,O⟩|⟨J,O⟩;exact .inl ⟨(AK _ _ e).trans J,O⟩;exact .inr ⟨(AK _ _ e).trans J,O⟩;by_cases e:z=x;subst e;exact⟨U,AO _ _ _⟩;have u:(if z=x then none else W.af z)=none:=H;rw[zo e]at u;exact⟨(h.out z u).1,(AK _ _ e).trans (h.out z u).2⟩
def PG(W:By)(x a b):(W.aO x a b).two x=none:=AO _ _ _
section
variable{L}{n}{E}
theorem C0.drop(h:C0 L n E){x r}(J:E.A.rows.find? (BR x)=some r)(an:r.cp=true)(aa:∀s∈E.R,s.reason≠x)(ab:CG (Ds E.A x)){W'} (ac:∀z,W'.af z=if z=x then none else E.W.af z)(ad:CK E.seen W'):C0 L n {E with A:=Ds E.A x,W:=W'}:=by
 obtain⟨k,ae,O,ao,aq⟩:=FQ J;have af:=(zl.1 O).1;have T:=(JT ae O J).1;have V:=Adg h.aS J;have ag:∀s∈(Ds E.A x).rows,s={r with live:=false}\/s∈E.A.rows:=by rw[T];grind
 refine⟨h.az,h.ah.clauses λs u _=>?_,h.bX,ab,λs u=>?_,?_,λz=>?_,ad,?_,?_,λi s hi=>?_,λc Z=>?_,h.free⟩;show AY (Ds E.A x).rows s.reason=_;rw[V,zo (aa s u)];rcases ag s u with rfl|u;exact h.cls r (zm O);exact h.cls s u;show((Ds E.A x).rows.length:Int)=E.id;rw[T,xj];exact h.len;show W'.af z=AY (Ds E.A x).rows z;rw[ac,V,h.af];refine h.calm.less λc Z=>?_;obtain⟨z,ah⟩:=Z;have U:=ah;rw[V]at U;by_cases e:z=x;rw[zq e]at U;simp_all;rw[zo e]at U;exact⟨z,U⟩;show Ga (Bv (Ds E.A x).rows);rw[Mx h.bj J];exact h.bj.sublist (ad7 _ xw);have H:=hi;rw[T]at H;by_cases e:i=k;subst e;rw[x4 af]at H;cases H;exact h.num i r O;rw[y3 Ad]at H;exact h.num i s H;obtain⟨s,u,aj,ak,al⟩:=h.given c Z;refine⟨s,?_,aj,ak,al⟩;show s∈(Ds E.A x).rows;rw[T];obtain⟨i,hi⟩:=z0 u;have am:k≠i:=by grind
 exact zm (i:=i) (by rw[y3 am];exact hi)
theorem Vz{P}(h:C0 L n E)(T:Told L P E.A.rows E.id){gone:An}(aa:gone.Nodup)(al:∀x∈gone,∃c,AY E.A.rows x=some c)(am:gone.length<=1000){A'} (ab:Bv A'=CQ (Bv E.A.rows) (gone.map (Bb E.A.rows))):Told L (P++[⟨2,E.id,[],gone.map (Bb E.A.rows)⟩]) A' E.id:=by
 have U:=T.inv.low;rw[T.last]at U;have J:∀x∈gone,∃r∈E.A.rows,E.A.rows.find? (BR x)=some r/\r.live=true/\Bb E.A.rows x=r.id/\r.pos=x:=λx O=>by grind[EZ,F5]
 have ac:(gone.map (Bb E.A.rows)).Nodup:=by refine x2.2 (aa.imp_of_mem λad hb ae e=>ae ?_);obtain⟨r,u,_,Z,af,H⟩:=J _ ad;obtain⟨s,ag,_,an,ah,aj⟩:=J _ hb;rw[af,ah]at e;obtain⟨i,hi⟩:=z0 u;obtain⟨j,V⟩:=z0 ag;have ao:=h.num i r hi;have aq:=h.num j s V;have ak:i=j:=Ad;subst ak;rw[hi]at V;cases V;rw[<-H,<-aj]
 refine T.drop (Vm U.1 U.2 (by rw[z2];omega) λx O=>?_) (AdZ ac λx O=>?_) ab;obtain⟨p,H,rfl⟩:=zw.1 O;obtain⟨r,u,_,_,e,_⟩:=J p H;rw[e];exact(h.aS.ok r u).1;obtain⟨p,H,rfl⟩:=zw.1 O;obtain⟨r,u,_,Z,e,_⟩:=J p H;rw[e,RL h.bj u Z];have:=(h.aS.ok r u).1;grind
end
