import Derived.Test.YtdmempceikifeaaGreatA16
import Derived.Lib.OwnBridge
set_option maxRecDepth 100000
set_option maxHeartbeats 16000000
set_option linter.all false
namespace Go.Proofs.YtdmempceikifeaaGreat
open Go.RowKit Tryz
section
open Go.Maps Go.Shelf Go.Sort
def Me(xs:An):(Cs xs).Perm xs:=acx xs _
def Uj(xs:An):(Cs xs).Pairwise (· <=·):=by have:=ac8 (le:=λx y:Int=>decide (x<=y)) (λa b c u E=>by simp at *;omega) (λa b=>Ca) xs;unfold Cs;exact this.imp λh=>by simpa using h
def V8{xs:An}(h:xs.Nodup):(Lib.compact (Cs xs)).length=xs.length:=by
 have E:=(Me xs).nodup_iff.2 h;have O:=Uj xs;rw[<-(Me xs).length_eq];generalize Cs xs=u at E O;rw[Lib.compact_all u λj H=>?_];have J:∀j(h:j<u.length),u.toArray[j]! =u[j]:=λj h=>by rw[getElem!_pos u.toArray j (by simpa using h)];simp
 by_cases T:j=0;subst T;exact Lib.keeps_lt_one _ 0 Ad;refine Lib.keeps_pos ?_;rw[J j H,J (j-1) Ad];have:=xo.1 E (j-1) j Ad H Ad;exactλe=>this e.symm
def Za(u w:Aj)(v:Aw)(xs:An)(h:Ay w u v xs)(E:Ae u w)(aa:xs.length<=1000000):AC 179 #[v] w λe w'=>(∃A c,e=.returned (.slice A (Lib.compact xs).length c))/\Ae u w':=by rcases h.2 with⟨rfl,H⟩|⟨J,zh,ab,rfl,O,T,U,ac,ad,V⟩;have Z:=z9 H;subst Z;refine(slices_Compact_int_empty none 0 w).mono ?_;rintro e w'⟨rfl,rfl⟩;exact⟨⟨none,0,rfl⟩,E⟩;refine(slices_Compact_int J 0 zh xs w (holds_of_block_i T (by simpa using V)) Ad U).mono ?_;rintro e w'⟨rfl,q,rfl⟩;exact⟨⟨_,_,rfl⟩,Lib.below_putRow E O⟩
def SM:Enters 267:=by intro args w;go_simp
def Aen(h:Int)(q:Addr)(p b:Nat)(S:Ey)(w:Aj)(J:w.cell? q=some (.pointer p))(u:EE w p b S)(hi:Dj S)(hb:1<=h/\h<=10000000)(E:(C8 S.rows h).isSome=true):AC 267 #[h,.pointer (some q)] w λe w'=>e=.returned false/\w=w':=by have O:=u.J.cell 0;have T:max h (-h)=h:=Ad;obtain⟨A,m,c,H,_,_,_⟩:=u.map.at hi.wide h Ad true;rw[zq rfl,E]at H;clear u hi E;go_enter func267,ntmps267;go_wp2;go_ret;exact⟨rfl,rfl⟩
def Wu(w:Aj)(p b:Nat)(S:Ey)(A:AD)(n c:Nat)(u:An)(h:EE w p b S)(J:Dj S)(O:AB w A n u)(T:∀x∈u,1<=x/\x<=10000000)(U:UL S.rows u):AC 182 #[.pointer p,.slice A n c] w λe w'=>e=.returned true/\Ae w w':=by
 have V:=BD w (.pointer p) 101;have E:=(Ae.refl w).alloc (Obj.cells #[.pointer p] 101);have Z:=h.ext E;have aa:=O.ext E;go_enter func182,ntmps182;go_wp2_with fail
 refine(Hk _ _ _ u (λ_=>false) _ _ _ aa SM λx H=>Aen x _ p b S _ V Z J (T x H) (U x H)).mono ?_;rintro e w'⟨rfl,rfl⟩;rw[show u.any (λ_=>false)=false by simp];go_wp2_with fail
 go_ret;exact⟨rfl,E⟩
def VR(R:List (Int×An))(y x:Int):C8 (R.filter λp=>decide (p.1≠y)) x=if x=y then none else C8 R x:=by
 unfold C8;by_cases e:x=y;subst e;rw[zq rfl,adc,y6];intro p E;have:=(ye.1 E).2;simpa using this;rw[zo e];congr 1;induction R with
 |nil=>rfl
 |cons q R u=>
  rw[adh,List.find?_cons];by_cases h:q.1=y;rw[zo (by simpa using h),u];have:(q.1==x)=false:=by rw[yv];omega
  rw[this];rw[zq (by simpa using h),List.find?_cons,u]
def Zp{R:List (Int×An)}{u:An}{k:Nat}{x:Int}(E:u[k]? =some x):CQ R (u.take (k+1))=(CQ R (u.take k)).filter λp=>decide (p.1≠x):=by unfold CQ;rw[ac4,AM E];congr 1;funext p;rw[Ju];cases Bd (u.take k) p.1<;>simp;exact acb.2 (by simp;exact eq_comm)
def Gz.drop{w w2:Aj}{b k:Nat}{n y:Int}{f:Int->Option Aw}{R:List (Int×An)}(E:(k:Int)<=n)(H:CB w b k f)(J:∀x,L0 w (f x) (C8 R x)) (O:CB w2 b k (λz=>if z=y then none else f z))(T:w.grownBy w2 (some b)):Gz w2 b n (R.filter λp=>decide (p.1≠y)):=by have keep:∀{u:Aw}{xs:An},Ay w 0 u xs->Ay w2 0 u xs:=λh=>h.kept T (Or.inr (yb (H.bq h)));refine⟨k,_,E,O,λx=>?_⟩;rw[VR];by_cases e:x=y;rw[zq e,zq e];trivial;rw[zo e,zo e];exact(J x).imp λ_ _ a=>keep a
def Yo{w wr:Aj}{p b k:Nat}{S:Ey}{u:An}(h:EE wr p b {S with rows:=CQ S.rows (u.take k)})(J:Au (Ub p b) w wr){x:Int}(O:u[k]? =some x) {E:Nat}{f:Int->Option Aw}(T:(E:Int)<=S.last)(U:CB wr b E f)(V:∀x,L0 wr (f x) (C8 (CQ S.rows (u.take k)) x)){w2:Aj} (Z:CB w2 b E (λz=>if z=x then none else f z))(H:wr.grownBy w2 (some b)):EE w2 p b {S with rows:=CQ S.rows (u.take (k+1))}/\Au (Ub p b) w w2:=by refine⟨⟨(h.J.grown H (by intro e;injection e with e;exact h.ne e.symm)),?_⟩,J.grown H (λk e=>by cases e;exact .inl (.inr rfl))⟩;show Gz w2 b S.last (CQ S.rows (u.take (k+1)));rw[Zp O];exact Gz.drop T U V Z H
def AhS(w:Aj)(p b:Nat)(S:Ey)(A:AD)(n c:Nat)(u:An)(U:EE w p b S)(af:Dj S)(E:AB w A n u)(ag:0<n->Fa (Ub p b) A)(ah:∀x∈u,1<=x/\x<=10000000)(ay:n<=1000)(aj:u.Nodup)(ak:UL S.rows u):AC 106 #[.pointer p,.slice A n c] w λe w'=>e=.returned ()/\NI w w' p b {S with rows:=CQ S.rows u}:=by
 have V:=zk E.1;have al:=zk ((V8 aj).trans E.1);go_enter func106,ntmps106;go_wp2_with fail
 refine(Ac9 _ _ _ _).mono ?_;rintro e az⟨rfl,rfl⟩;have Z:=(Ae.refl w).alloc (Obj.cells #[.slice A n c] 86);go_wp2_with fail
 refine(Abq _ A n c u _ Ad (Aq.new w _ _) (E.ext Z)).mono ?_;rintro e w2⟨aA,rfl,am,an⟩;go_wp2_with fail
 refine(Za _ _ _ _ am an (by have:=(Me u).length_eq.trans V;omega)).mono ?_;rintro e aB⟨⟨aC,aD,rfl⟩,ao⟩;have J:=Z.trans ao;rw[al.out];go_wp2_with fail
 refine(Wu _ p b S _ _ _ u (U.ext J) af (E.ext J) ah ak).mono ?_;rintro e aE⟨rfl,aq⟩;have aa:=J.trans aq;go_wp2_with fail
 go_loopw[25](λi wr=>∃k:Nat,k<=n/\i=k/\EE wr p b {S with rows:=CQ S.rows (u.take k)}/\Au (Ub p b) w wr)(λi _=>n-(intOf i).toNat);case atStart=>
  refine⟨0,zx _,rfl,?_,Ae.stay aa⟩;have e:CQ S.rows (u.take 0)=S.rows:=by unfold CQ;rw[x9];intro a _;rfl
  rw[e];exact(U.ext aa)
 case round=>
  obtain⟨k,aF,rfl,H,O⟩:=hrel;by_cases au:k<n;obtain⟨aG,x,rfl,av,aH,aI,aJ⟩:=(E.stay O (ag Ad)).at_ au;obtain⟨aw,f,T,ab,ax⟩:=H.map;have aK:=H.J.cell 0;skip;go_wp2_with(refine VQ _ rfl _ _ rfl b aw f rfl ab x rfl Ad ?_;intro aL ac ad;have ae:=Yo H O av.out T ab ax ac ad;clear ac ad)
  go_roundw;case rel=>exact⟨k+1,Ad,by go_num,ae.1,ae.2⟩
  case measure=>simp[intOf];omega
  have T:k=n:=Ad;subst T;go_wp2_with fail
  go_ret;refine⟨rfl,?_,O⟩;have:=H;rw[z1 (by rw[V.out];omega)]at this;exact this
end
def Aev(E:An)(w:Aj)(e:Bz)(w':Aj):Prop:=∃u,e=.returned (.tuple #[u,AI])/\Ay w' w u E/\Ae w w'
def AgW(A:AD)(n c:Nat)(u:An)(w:Aj)(O:AB w A n u)(ag:n<=1000000)(U:∀x∈u,1<=x/\x<=10000000):AC 268 #[.slice A n c] w (Aev u w):=by
 skip;go_enter func268,ntmps268;go_wp2_with fail
 go_loopw[2,3,9](λV Z i wr=>∃k:Nat,Z=AI/\k<=n/\i=k/\Ay wr w V (u.take k)/\Ae w wr)(λ_ _ i _=>n-(intOf i).toNat);case atStart=>exact⟨0,rfl,zx _,rfl,Ay.nil _ _,Ae.refl w⟩
 case round=>
  obtain⟨k,rfl,ah,rfl,H,E⟩:=hrel;have aa:((u.take k).length<=n):=by rw[ya];omega
  skip;by_cases ab:k<n;obtain⟨aj,x,rfl,J,ak,al,am⟩:=(O.ext E).at_ ab;have ac:=zk (AM J);have an:¬x<0:=by have:=U x (zm J);omega
  clear J;go_wp2_with(at_builtin;refine BW _ rfl _ _ rfl w _ _ rfl (H.alloc _) _ _ _ rfl (BD _ _ _) Ad (by have:=aa;omega) (by have:=(Ae.size_le E);simp;omega) ?_;intro ao w2 ad T _;have ae:=Ae.grown (E.alloc _) T (λj af=>(H.J j af).1);clear T)
  go_roundw;case rel=>exact⟨k+1,rfl,Ad,by go_num,by rw[ac.out];exact ad,ae⟩
  case measure=>simp[intOf];omega
  go_wp2_with fail
  go_ret2;refine⟨_,rfl,?_,E⟩;have:=H;rw[z1 (by rw[(zk O.1).out];omega)]at this;exact this
def Aiw{S:Ey}(hi:Dj S)(u:An):∀d∈FG S.rows u,d.length<=1000/\∀x∈d,-100000<=x/\x<=100000:=by
 intro d E;obtain⟨i,_,rfl⟩:=zw.1 E;cases h:C8 S.rows i with
 |none=>exact⟨AG,λx H=>by simp at H⟩
 |some c=>exact hi.wide _ (L6 h)
def NV(R:List (Int×An))(u:An):(FG R u).length=u.length:=by unfold FG;rw[z2]
def Ye(R:List (Int×An))(u:An)(i:Int):FG R (u++[i])=FG R u++[(C8 R i).getD []]:=by unfold FG;rw[yo];rfl
def Gz.later{w:Aj}{b:Nat}{n:Int}{R:List (Int×An)}(h:Gz w b n R)(T:∀p∈R,p.2.length<=1000/\∀x∈p.2,-100000<=x/\x<=100000)(x:Int)(U:-9223372036854775808<=x/\x<=Bh):∃A m c,(∀W,Ae w W->(Instr.lookup 190 (.map (some b)) x false).run prog W=.ok (.slice A m c) W)/\AB w A m ((C8 R x).getD [])/\m<=1000/\m<=c:=by obtain⟨k,f,_,V,Z⟩:=h;have E:∀W,Ae w W->_:=λW aa=>(V.ext aa).dO x U false;have e:=Z x;cases H:f x<;>cases J:C8 R x<;>rw[H,J]at e;rw[H]at E;exact⟨none,0,0,E,AB.nil w,Ax,Ax⟩;exact e.elim;exact e.elim;rename_i u xs;have ab:xs.length<=1000/\∀y∈xs,-100000<=y/\y<=100000:=T _ (L6 J);obtain⟨af,ac⟩:=ab;obtain⟨A,m,c,rfl,O,ad⟩:=Ay.aQ e Ad (λy ae=>by have:=ac y ae;omega);rw[H]at E;exact⟨A,m,c,E,O,by have ag:xs.length=m:=O.1;omega,ad⟩
def ZY(w W:Aj)(p b:Nat)(S:Ey)(h:EE w p b S)(hi:Dj S)(i:Int)(H:-9223372036854775808<=i/\i<=Bh)(u:Ae w W):AC 269 #[.pointer p,i] W λe w'=>(∃A m c,e=.returned (.slice A m c)/\AB w A m ((C8 S.rows i).getD [])/\m<=1000/\m<=c)/\W=w':=by have U:=(h.J.ext u).cell 0;obtain⟨A,m,c,E,J,O,T⟩:=h.map.later hi.wide i H;have E:=E W u;go_enter func269,ntmps269;go_wp2;go_ret;exact⟨⟨A,m,c,rfl,J,O,T⟩,rfl⟩
def Zx(u:Aj)(R:List (Int×An))(E:An)(w:Aj)(e:Bz)(w':Aj):Prop:=∃v,e=.returned v/\FF u w' w v (FG R E)/\Ae w w'
def Adl(A:AD)(n c:Nat)(E:An)(p b:Nat)(S:Ey)(u w:Aj)(T:AB w A n E)(aa:EE u p b S)(ab:Ae u w)(ac:Dj S)(ao:n<=100000000):AC 270 #[.slice A n c,.func (.func 269) #[.pointer p] #[]] w (Zx u S.rows E w):=by
 have U:=zk T.1;skip;go_enter func270,ntmps270;go_wp2_with fail
 go_loopw[5,10](λv i wr=>∃k:Nat,k<=n/\i=k/\FF u wr w v (FG S.rows (E.take k))/\Ae w wr)(λ_ i _=>n-(intOf i).toNat);case atStart=>exact⟨0,zx _,rfl,FF.nil _ _ _,Ae.refl w⟩
 case round=>
  obtain⟨k,aq,rfl,J,H⟩:=hrel;have ad:=Ae.size_le H;skip;by_cases ae:k<n;obtain⟨au,x,rfl,V,av,aw,ax⟩:=(T.ext H).at_ ae;have af:=zk (AM V);have ag:Hid ((FG S.rows (E.take k)).length=k):=by unfold Hid;rw[NV,ya,U.out];omega
  clear V;go_wp2_with fail
  refine(ZY u _ p b S aa ac x Ad (ab.trans H)).mono ?_;rintro e ay⟨⟨ah,aj,ak,rfl,al,az,aA⟩,rfl⟩;skip;go_wp2_with(at_builtin;refine AeS u _ rfl _ _ rfl w _ (FG S.rows (E.take k)) rfl (J.alloc _) _ _ ah aj ak ((C8 S.rows x).getD []) rfl (BD _ _ _) al (by have:=ag.out;omega) (by have:=ad;simp;omega) ?_;intro aB w2 O Z _;have am:Hid (Ae w w2):=Ae.grown (H.alloc _) Z (λj an=>(J.J j an).1);clear Z)
  go_roundw;case rel=>exact⟨k+1,Ad,by go_num,by rw[af.out,Ye];exact O,am⟩
  case measure=>simp[intOf];omega
  have O:Hid (FF u wr w u5 (FG S.rows E)):=by have:=J;rw[z1 (by rw[U.out];omega)]at this;exact this
  skip;go_wp2_with fail
  go_ret;exact⟨_,rfl,O,H⟩
def Ag0(p b:Nat)(S:Ey)(A:AD)(n c:Nat)(zd:An)(A':AD)(n' c':Nat)(u:An)(w:Aj)(af:EE w p b S)(ag:Dj S)(ah:AB w A n zd)(U:AB w A' n' u)(au:n<=1000)(av:n'<=1000)(V:∀x∈u,1<=x/\x<=10000000)(aj:F8 zd (FG S.rows u)=0):AC 183 #[.pointer p,.slice A n c,.slice A' n' c'] w λe w'=>e=.returned ()/\Ae w w':=by
 have Z:=zk U.1;have ak:=zk aj;go_enter func183,ntmps183;go_wp2_with fail
 refine(AgW _ _ _ u _ U Ad V).mono ?_;rintro e J⟨aw,rfl,aa,E⟩;obtain⟨ax,al,ay,rfl,O,az⟩:=aa.aQ (by have:=Z.out;omega) (λx am=>by have:=V x am;omega);have aA:al<=1000:=by have:=O.1;have:=Z.out;omega
 have ab:=zk O.1;clear aa;go_wp2_with fail
 have H:Hid (Ae J (J.alloc (Obj.cells #[.func (.func 269) #[.pointer p] #[]] 282))):=(Ae.refl J).alloc _;refine(Adl _ _ _ _ p b S w _ (O.ext H) af (E.trans H) ag Ad).mono ?_;rintro e aB⟨aC,rfl,ac,T⟩;obtain⟨aD,an,aE,rfl,ad,aF⟩:=ac.aC (E.trans (H.trans T)) (by rw[NV];have:=ab.out;omega);have aG:an<=1000:=by have:=ad.1;rw[NV]at this;have:=ab.out;omega
 have ae:=H.trans T;clear ac T;go_wp2_with fail
 refine(Aam _ _ _ zd _ _ _ _ _ (ah.ext (E.trans ae)) ad Ad Ad).mono ?_;rintro e aH⟨rfl,ao⟩;rw[ak.out];have aq:=E.trans (ae.trans ao);go_wp2_with fail
 go_ret;exact⟨rfl,aq⟩
def Air(p b:Nat)(S:Ey)(id:Int)(zd E:An)(A:AD)(n c:Nat)(A':AD)(n' c':Nat)(w:Aj)(H:EE w p b S)(J:Dj S)(u:OF S ⟨1,id,zd,E⟩)(O:AB w A n zd)(aa:AB w A' n' E):AC 107 #[.pointer p,.agg #[AF,id,.slice A n c,.slice A' n' c']] w λe w'=>e=.returned ()/\NI w w' p b (KC S id zd):=by
 obtain⟨ab,ac,ad⟩:=u.k rfl;have T:=(Jl Ax (u.dx (show(1:Int)≠2 by decide)).2.2).1;have ae:=u.may.len;have hid:=u.may.dL;dsimp only at ab ac ad T ae hid;rw[O.1]at T;rw[aa.1]at ae;have af:=(Ae.refl w).alloc (Obj.cells #[AF,id,.slice A n c,.slice A' n' c'] 105);have U:=Aq.new w 105 #[AF,id,.slice A n c,.slice A' n' c'];have aw:=U.cell 1;have ax:=U.cell 2;have ay:=U.cell 3;have ao:=(H.ext af).J.cell 1;have aq:=u.may.dC;have az:=u.has;have aA:=zk ac;have aB:=zk ad;have aC:=J.low;obtain⟨last,ag⟩:∃last,S.last=last:=⟨_,rfl⟩;have aD:=zk ag;rw[ag]at ao aC ab;have aI:¬id<=last:=Ad;clear u ac ad ag ab;go_enter func107,ntmps107;go_wp2;go_quiet(fail);go_wp2_with fail
 refine(PX _ _ _ zd _ (O.ext (af.drewN _)) Ad).mono ?_;rintro e aJ⟨rfl,ah⟩;rw[aA.out];have aj:=(af.drewN _).trans ah;have ak:=U.ext (((Ae.refl _).drewN _).trans ah);have aE:=ak.cell 2;have aF:=ak.cell 3;clear ah aw ax ay ao;go_wp2_with fail
 refine(Wu _ p b S _ _ _ E (H.ext aj) J (aa.ext aj) aq az).mono ?_;rintro e w2⟨rfl,al⟩;have V:=aj.trans al;have Z:=ak.ext al;have d1:=Z.cell 1;have d2:=Z.cell 2;have d3:=Z.cell 3;clear al aE aF;go_wp2_with fail
 refine(Ag0 p b S _ _ _ zd _ _ _ E _ (H.ext V) J (O.ext V) (aa.ext V) T ae aq aB).mono ?_;rintro e aK⟨rfl,am⟩;have an:=V.trans am;have au:=Z.ext am;have aL:=au.cell 1;have aM:=au.cell 2;clear am d1 d2 d3;go_wp2_with fail
 refine(AeW _ p b S id _ _ _ zd (H.ext an) J (O.ext an) (by rw[aD.out];omega) hid T).mono ?_;rintro e aN⟨rfl,aG,av⟩;have aH:=Au.ay an av;clear av;go_wp2_with fail
 go_ret;exact⟨rfl,aG,aH⟩
def Ag5(p b:Nat)(S:Ey)(s:Cz)(A:AD)(n c:Nat)(A':AD)(n' c':Nat)(w:Aj)(V:EE w p b S)(ac:Dj S)(E:OF S s)(h:AB w A n s.lits)(H:AB w A' n' s.hints)(ah:0<n'->Fa (Ub p b) A'):AC 41 #[.pointer p,.agg #[s.kind,s.id,.slice A n c,.slice A' n' c']] w λe w'=>e=.returned ()/\NI w w' p b (BU S s):=by
 obtain⟨kind,id,zd,ad⟩:=s;dsimp only at h H⊢;have ae:=(Ae.refl w).alloc (Obj.cells #[kind,id,.slice A n c,.slice A' n' c'] 105);have Z:=ae.alloc (Obj.cells #[kind,id,.slice A n c,.slice A' n' c'] 105);have J:=Aq.new w 105 #[kind,id,.slice A n c,.slice A' n' c'];have aj:=RJ _ 1 1 _ _ (Zo (Aq.c7 (g:=w+1) (w:=w.alloc (Obj.cells #[kind,id,.slice A n c,.slice A' n' c'] 105)) 105 #[kind,id,.slice A n c,.slice A' n' c'] AG) (h.ext Z) (H.ext Z)) (λz ak=>by rw[zy.1 ak];exact E.may) Ax;have al:=h;have af:=H;have T:=E;have aa:=E.may.len;dsimp only at aa;rw[H.1]at aa;have U:=E.may.k;clear h H E;have am:=J.cell 0;have an:=J.cell 1;have ao:=J.cell 2;have aq:=J.cell 3;rcases U with⟨U,-⟩|⟨U,-⟩;all_goals
  obtain rfl:kind=_:=U;go_enter func41,ntmps41;go_wp2_with fail
  refine(ZW _ p b S (V.ext ae)).mono ?_;rintro e aw⟨rfl,rfl⟩;go_wp2_with fail
  refine aj.mono ?_;rintro e w2⟨rfl,ab⟩;have u:=Z.trans ab;have O:=J.ext (((Ae.refl _).alloc _).trans ab);have ax:=O.cell 0;have ay:=O.cell 1;have az:=O.cell 2;have aA:=O.cell 3;clear ab am an ao aq O;go_wp2_with fail
 focus refine(Air p b S id zd ad _ _ _ _ _ _ _ (V.ext u) ac T (al.ext u) (af.ext u)).mono ?_
 rotate_left;focus refine(AhS _ p b S _ _ _ ad (V.ext u) ac (af.ext u) ah T.may.dC aa (T.d rfl) T.has).mono ?_
 all_goals
  rintro e aB⟨rfl,au,ag⟩;have av:=Au.ay u ag;clear ag;go_wp2_with fail
  go_ret;exact⟨rfl,au,av⟩
section
open Go.Maps
def Acj{L:AT}{k:Nat}{l:An}(h:L[k]? =some l):BG (L.take (k+1))=KC (BG (L.take k)) ((BG (L.take k)).last+1) l:=by rw[AM h,GN]
def Ae.dI{a w w':Aj}{F:Nat->Prop}(h:Ae a w)(k:Au F w w')(hF:∀b,F b->a<=b):Ae a w':=(Au.ay h k).ext hF
def Ah5(L:AT)(w:Aj)(e:Bz)(w':Aj):Prop:=∃p b,e=.returned (.tuple #[.pointer (some ⟨p,0,none⟩),.int .i64 0])/\EE w' p b (BG L)/\w.heap.size<=p/\w.heap.size<=b/\Ae w w'
def Ais(v:Int)(A:AD)(n c:Nat)(L:AT)(w:Aj)(E:Bf w A n L)(aF:n<=1000000)(J:Ov v L):AC 40 #[.agg #[v,.slice A n c]] w (Ah5 L w):=by
 have Z:=(Ae.refl w).alloc (Obj.cells #[v,.slice A n c] 34);have aa:=Aq.new w 34 #[v,.slice A n c];have ab:=zk E.1;have an:Hid (∀k,Dj (BG (L.take k))):=λk=>Sl (by rw[ya,E.1];omega) (λc ao=>Lo J c (xh ao));have O:=aa.cell 1;have aq:=λ(n:Int)(W:Aj)=>F4 (P:=prog) 190 3 86 .i64 n underlying190 W;clear O;go_enter func40,ntmps40;go_wp2_with fail
 refine(Mq v _ _ _ L _ (E.ext Z) J).mono ?_;rintro e u⟨rfl,T⟩;have U:=Z.trans T;have ac:=aa.ext T;have O:=ac.cell 1;have au:=λav aw=>(ac.ext (((Ae.refl u).alloc av).alloc aw)).cell 1;clear T;go_wp2_with fail
 clear O au aq;go_loopw[26](λi wr=>∃k:Nat,k<=n/\i=k/\EE wr (u+1) u (BG (L.take k))/\Ae u wr)(λi _=>n-(intOf i).toNat);case atStart=> refine⟨0,zx _,rfl,⟨Aq.c7 _ _ AG,⟨0,λ_=>none,aat _,(CB.made u).ext ((Ae.refl _).alloc _),λ_=>trivial⟩⟩,((Ae.refl _).alloc _).alloc _⟩
 case round=>
  obtain⟨k,aG,rfl,H,ad⟩:=hrel;have ae:=U.trans ad;have d0:=H.J.cell 0;have d1:=H.J.cell 1;have V:(BG (L.take k)).last=k:=by rw[K9,ya,ab.out];congr 1;omega
  rw[V]at d1;have af:=zk V;clear V;by_cases ax:k<n;obtain⟨aH,ag,aI,ay,aJ,rfl,ah,aK,aj⟩:=(E.ext ae).at_ ax;have az:=Lo J ag (zm ah);have aA:ay<=1000:=by have:=aj.1;omega
  have aL:(k:Int)+1<=Bh:=Ad;clear az;go_wp2_with fail
  refine(AeW _ _ _ (BG (L.take k)) ((k:Int)+1) _ _ _ ag H (an k) aj (by rw[af.out];omega) Ad aA).mono ?_;rintro e ak⟨rfl,al,am⟩;have aB:Hid (EE ak (u+1) u (BG (L.take (k+1)))):=by unfold Hid;rw[Acj ah,af.out];exact al
  have aC:Hid (Ae u ak):=ad.dI am (λj e=>by rcases e with e|e<;>subst e<;>omega);clear al am;go_wp2_with fail
  go_roundw;case rel=>exact⟨k+1,Ad,by go_num,aB,aC⟩
  case measure=>simp[intOf];omega
  have aD:k=n:=Ad;subst aD;have aE:Hid (BG (L.take k)=BG L):=by unfold Hid;rw[z1 (by rw[ab.out];exact zs _)]
  go_wp2_with fail
  go_ret2;refine⟨u+1,u,rfl,by rw[<-aE.out];exact H,?_,?_,ae⟩;have:=U.size_le;omega;exact U.size_le
def AB.ew{w:Aj}{A:AD}{n:Nat}{xs:An}(h:AB w A n xs)(E:0<n):∀u,A=some u->u.block<w:=λu e=>by
 obtain⟨O,e',H⟩:=h.2.2.2 E;rw[e]at e';cases e';have J:0<xs.length:=by have:=h.1;omega
 have:=xu _ _ (H 0 _ (zr J));rwa[block_add]at this
def AdL{S:Ey}{l:List Cz}{k:Nat}{s:Cz}(u:l[k]? =some s):(l.take (k+1)).foldl BU S=BU ((l.take k).foldl BU S) s:=by rw[AM u,xr];rfl
def N8(v:Int)(A:AD)(n c:Nat)(L:AT)(A':AD)(n' c':Nat)(l:List Cz)(w:Aj)(O:Bf w A n L)(T:DP w A' n' l)(az:n<=10000)(aA:n'<=10000)(u:MW v L l):AC 11 #[.agg #[v,.slice A n c],.slice A' n' c'] w λe w'=>e=.returned (.tuple #[n',()])/\Ae w w':=by
 have J:=(Ae.refl w).alloc (Obj.cells #[v,.slice A n c] 34);go_enter func11,ntmps11;go_wp2_with fail
 refine(Ais v _ _ _ L _ (O.ext J) Ad u.1).mono ?_;rintro e aB⟨p,b,rfl,ae,aC,aD,af⟩;have ag:=J.trans af;have U:Hid (w<=p/\w<=b):=by have:=J.size_le;exact⟨Ad,Ad⟩
 go_wp2_with fail
 go_loopw[20](λi wr=>∃k:Nat,k<=n'/\i=k/\EE wr p b ((l.take k).foldl BU (BG L))/\Ae w wr)(λi _=>n'-(intOf i).toNat);case atStart=>exact⟨0,zx _,rfl,ae,ag⟩
 case round=>
  obtain⟨k,aE,rfl,V,E⟩:=hrel;by_cases ah:k<n';obtain⟨aF,s,rfl,Z,aj,ak,al,aa,ab,am,an,ao,ac⟩:=T.at_ ah;obtain⟨aG,aH,aI,aJ⟩:=an.ext E;have aq:Hid (0<ab->Fa (Ub p b) aa):=λau av e hF=>by have:=ac.ew au av e;have:=U.out;rcases hF with e|e<;>omega
  go_wp2_with fail
  have H:Hid (Ae wr (wr.alloc (Obj.cells #[s.kind,s.id,.slice aj ak al,.slice aa ab am] 105))):=(Ae.refl wr).alloc _;refine(Ag5 p b _ s _ _ _ _ _ _ _ (V.ext H) ((QO (TD u.1 (by rw[O.1];omega)) u.2.1) k) (u.2.1 k s Z) (ao.ext (E.trans H)) (ac.ext (E.trans H)) aq).mono ?_;rintro e aK⟨rfl,ad,aw⟩;rw[<-AdL Z]at ad;have ax:=ad;have ay:=(E.trans H).dI aw (λj e=>by have:=U.out;rcases e with e|e<;>subst e<;>omega);go_wp2_with fail
  go_roundw;case rel=>exact⟨k+1,Ad,by go_num,ax,ay⟩
  case measure=>simp[intOf];omega
  obtain rfl:k=n':=Ad;go_wp2_with fail
  refine(AhN _ p b _ V).mono ?_;rintro e aL⟨rfl,rfl⟩;rw[z1 (by rw[(zk T.1).out];exact zs _),u.2.2];go_wp2_with fail
  go_ret2;exact⟨rfl,E⟩
end
