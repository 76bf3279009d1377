import Derived.Test.YtdmempceikifeaaGreatA05
import Derived.Test.YtdmempceikifeaaGreatA08
import Derived.Test.YtdmempceikifeaaGreatA09
import Derived.Test.YtdmempceikifeaaGreatA12
set_option maxRecDepth 100000
set_option maxHeartbeats 16000000
set_option linter.all false
namespace Go.Proofs.YtdmempceikifeaaGreat
open Go.RowKit Tryz
def Hz:NG 174 3 ():=⟨underlying174,LP⟩
structure CE(w)(b)(s:Int->Bool):Prop where
 ex:∃ks f,BB w b ks f/\(∀x,f x=none\/f x=some (.int .i64 0)\/f x=some (.int .i64 1))/\(∀x,s x=true↔f x=some (.int .i64 1))/\∀x,(f x).isSome=true->-1000000<=x/\x<=1000000
structure Fs(w)(B q ap tp ms)(lv)(P:Ex):Prop where
 J:Aq w q 312 #[.pointer (some ⟨ap,0,none⟩),.pointer (some ⟨tp,0,none⟩),.map (some ms),lv,P.many]
 seen:CE w ms P.seen
 own:Ay w B lv P.lits
 cO:B<=q
 bu:B<=ms
 ao:-1000000<=P.many/\P.many<=1000000
 dp:P.lits.length<=1000000
 dj:∀x∈P.lits,-100000<=x/\x<=100000
section
variable{w w':World}{b B q ap tp ms:Nat}{lv:Value}{P:Ex}{s:Int->Bool}
theorem CE.ext(h:CE w b s)(u:Ae w w'):CE w' b s:=by obtain⟨E,f,H,J⟩:=h.ex;exact⟨E,f,H.ext u,J⟩
theorem CE.made(w:Aj):CE (w.alloc (.map #[] 0)) w λ_=>false:=⟨[],_,BB.made w,λ_=>.inl rfl,λ_=>AG,λ_ h=>by simp at h⟩
theorem CE.run(h:CE w b s){x}(H:Bj x):(Instr.lookup 174 (.map (some b)) x false).run prog w=.ok (.int .i64 (if s x then 1 else 0)) w:=by
 obtain⟨T,f,J,O,u,_⟩:=h.ex;rw[J.look Hz H];rcases O x with e|e|e;have:s x=false:=by
  cases E:s x with
  |false=>rfl
  |true=>have:=(u x).1 E;rw[e]at this;cases this
 rw[e,this];rfl;have:s x=false:=by
  cases E:s x with
  |false=>rfl
  |true=>have:=(u x).1 E;rw[e]at this;cases this
 rw[e,this];rfl;rw[e,(u x).2 e];rfl
theorem CE.cA(h:CE w b s){x}(u:Bj x)(E:s x=false):(Instr.lookup 174 (.map (some b)) x false).run prog w=.ok () w:=by have:=h.run u;rw[E]at this;exact this
theorem CE.cR(h:CE w b s){x}(u:Bj x)(E:s x=true):(Instr.lookup 174 (.map (some b)) x false).run prog w=.ok AF w:=by have:=h.run u;rw[E]at this;exact this
theorem Fs.ext(h:Fs w B q ap tp ms lv P)(u:Ae w w'):Fs w' B q ap tp ms lv P:=⟨h.J.ext u,h.seen.ext u,h.own.ext u,h.cO,h.bu,h.ao,h.dp,h.dj⟩
end
def DK(R:List AH)(d:Int)(zg:Int->Bool):Nat->Int
 |0=>-1
 |n+1=>match R[n]? with
  |some r=>if Br d zg r=true/\0<=r.reason then n else DK R d zg n
  |none=>DK R d zg n
def Kh(x):Bj (Ak x):=by unfold Bj Ak;(repeat(first|omega|split))
def Tl(w:Aj)(za p Z:Nat)(lv aa:Aw)(zb:Nat)(R:List AH)(E:An)(B q ap ms:Nat)(Cx:Aw)(P:Ex)(A:AD)(c m:Nat)(H:Bm w za p Z lv aa zb R E)(aC:(R.map λr=>Ak r.lit).Nodup) (aD:Fs w B q ap p ms Cx P)(aE:AB w A R.length (Az R))(aL:m<=R.length):AC 301 #[.pointer q,.slice A R.length c,.int .i64 ((m:Int)-1)] w λe w'=>e=.returned (DK R E.length P.seen m)/\Ae w w':=by
 have aM:=H.bh;skip;go_enter func301,ntmps301;go_wp2;go_loopw[7](λi wr=>∃k:Nat,i=.int .i64 ((k:Int)-1)/\k<=m/\DK R E.length P.seen m=DK R E.length P.seen k/\Ae w wr)(λi _=>(intOf i+1).toNat);case atStart=>exact⟨m,rfl,zs _,rfl,Ae.refl _⟩
 case round=>
  obtain⟨k,rfl,aN,ao,J⟩:=hrel;have ab:=zk ao;clear ao;by_cases aq:1<=k;obtain⟨j,rfl⟩:∃j,k=j+1:=⟨k-1,Ad⟩;have au:((j+1:Nat):Int)-1=(j:Int):=Ad;rw[au];obtain⟨aO,l,rfl,aF,aP,aQ,aR⟩:=(aE.ext J).at_ (k:=j) Ad;obtain⟨r,ah,aG⟩:=EU aF;subst aG;have av:=Dx aC ah;have ac:=zk ah;have aw:=zk av;have aS:(0:Int)<=(j:Int):=Ad;have aT:(j:Int)<(R.length:Int):=Ad;have O:=aD.ext J;have ax:=O.J.cell 1;have ay:=O.J.cell 2;clear aq au ah av;cases T:P.seen (Ak r.lit)with
  |false=>
   have hrun:=λW(u:Ae wr W)=>(O.seen.ext u).cA (Kh r.lit) T;have ad:=λW(u:Ae wr W)=>u.cell ax;have ae:=λW(u:Ae wr W)=>u.cell ay;have af:=zk T;clear T O;go_wp2_with(go_at_call 141;refine(BF _ _).mono ?_;rintro e w'⟨rfl,rfl⟩)
   refine AL AJ ?_;(repeat first|apply Bg rfl (λW u=>Am) Am|apply AS rfl Am);refine AN λW u=>?_;have U:=J.trans u;clear u ad ae hrun;go_wp2;go_roundw;case rel=>exact⟨j,rfl,Ad,by rw[ab.out,DK,ac.out];simp[Br,af.out],U⟩
   case measure=>simp[intOf]<;>omega
  |true=>
   have hrun:=λW(u:Ae wr W)=>(O.seen.ext u).cR (Kh r.lit) T;have ad:=λW(u:Ae wr W)=>u.cell ax;have ae:=λW(u:Ae wr W)=>u.cell ay;have af:=zk T;clear T O;obtain⟨z,aj⟩:∃z,AR R (Ak r.lit)=z:=⟨_,rfl⟩;obtain⟨y,ak⟩:∃y,D4 R (Ak r.lit)=y:=⟨_,rfl⟩;have al:=λW(u:Ae wr W)=>GS W za p Z lv aa zb R E (Ak r.lit) (H.ext (J.trans u));have am:=λW(u:Ae wr W)=>Hl W za p Z lv aa zb R E (Ak r.lit) (H.ext (J.trans u));rw[aj]at al;rw[ak]at am;have az:Hid (r.level=z):=by rw[<-aw.1];exact zk aj
   have aA:Hid (r.reason=y):=by rw[<-aw.2];exact zk ak
   have aB:=al;have aH:=am;clear aj al ak am;by_cases V:z=(E.length:Nat)
   . have aI:(z==((E.length:Nat):Int))=true:=by simpa using V
     have an:=zk V;clear V;by_cases ag:0<=y;focus have aJ:decide (0<=y)=true:=zt ag
     rotate_left;focus have aJ:decide (0<=y)=false:=zn ag
     all_goals
      skip;go_wp2_with(go_at_call 141;refine(BF _ _).mono ?_;rintro e w'⟨rfl,rfl⟩)
      refine AL AJ ?_;(repeat first|apply Bg rfl (λW u=>Am) Am|apply AS rfl Am);apply Bu (λW u=>aB W u) rfl (λW u=>by go_simp) Am;(repeat first|apply Bg rfl (λW u=>Am) Am|apply AS rfl Am);apply Bu (λW u=>Lh W za p Z lv aa zb R E (H.ext (J.trans u))) rfl (λW u=>by go_simp) Am;(repeat first|apply Bg rfl (λW u=>Am) Am|apply AS rfl Am);apply Bu (λW u=>aH W u) rfl (λW u=>by go_simp) Am;(repeat first|apply Bg rfl (λW u=>Am) Am|apply AS rfl Am);refine AN λW u=>?_;have U:=J.trans u;clear u ad ae hrun;go_wp2
     go_roundw;case rel=>exact⟨j,rfl,Ad,by rw[ab.out,DK,ac.out];exact zo (λh=>by have aK:=h.2;rw[aA.out]at aK;have aU:=ag;omega),U⟩
     case measure=>simp[intOf]<;>omega
     go_ret;exact⟨Bn (by rw[ab.out,DK,ac.out];simp[Br,af.out,az.out,an.out,aA.out,ag]),U⟩
   have aI:(z==((E.length:Nat):Int))=false:=by simpa using V
   have an:=zk V;clear V;go_wp2_with(go_at_call 141;refine(BF _ _).mono ?_;rintro e w'⟨rfl,rfl⟩)
   refine AL AJ ?_;(repeat first|apply Bg rfl (λW u=>Am) Am|apply AS rfl Am);apply Bu (λW u=>aB W u) rfl (λW u=>by go_simp) Am;(repeat first|apply Bg rfl (λW u=>Am) Am|apply AS rfl Am);apply Bu (λW u=>Lh W za p Z lv aa zb R E (H.ext (J.trans u))) rfl (λW u=>by go_simp) Am;(repeat first|apply Bg rfl (λW u=>Am) Am|apply AS rfl Am);refine AN λW u=>?_;have U:=J.trans u;clear u ad ae hrun;go_wp2;go_roundw;case rel=>exact⟨j,rfl,Ad,by rw[ab.out,DK,ac.out];simp[Br,af.out,az.out,an.out],U⟩
   case measure=>simp[intOf]<;>omega
  obtain rfl:k=0:=Ad;clear aq;go_wp2;go_ret;exact⟨Bn (by rw[ab.out];rfl),J⟩
section
variable{w w' w0:World}{b B q ap tp ms:Nat}{lv:Value}{P:Ex}{s:Int->Bool}
theorem CE.set(h:CE w b s){x:Int}(O:-1000000<=x/\x<=1000000)(y:Bool):∃w',(Instr.mapUpdate 174 (.map (some b)) x (.int .i64 (if y then 1 else 0))).run prog w=.ok () w'/\CE w' b (λu=>if u=x then y else s u)/\w.grownBy w' (some b):=by
 obtain⟨T,f,H,U,V,J⟩:=h.ex;have Z:T.length<=1000000000000000000:=by have:=H.dh (L:=(List.range 2000001).map λk=>((k:Nat):Int)-1000000) (λu E=>by have:=J u E;exact zw.2 ⟨(u+1000000).toNat,zv.2 Ad,Ad⟩);simp at this;omega
 obtain⟨w',aa,ab,ac⟩:=H.set Hz Z (x:=x) (by unfold Bj;omega) (.int .i64 (if y then 1 else 0));refine⟨w',aa,⟨_,_,ab,λu=>?_,λu=>?_,λu E=>?_⟩,ac⟩;by_cases e:u=x;subst e;rw[zq rfl];cases y;exact .inr (.inl rfl);exact .inr (.inr rfl);rw[zo e];exact U u;by_cases e:u=x;subst e;rw[zq rfl,zq rfl];cases y<;>simp;rw[zo e,zo e];exact V u;by_cases e:u=x;subst e;exact O;rw[zo e]at E;exact J u E
theorem CE.keep(h:CE w b s)(u:w'.heap[b]? =w.heap[b]?):CE w' b s:=by obtain⟨E,f,H,J⟩:=h.ex;exact⟨E,f,H.keep u,J⟩
theorem CE.lt(h:CE w b s):b<w:=let⟨_,_,u,_⟩:=h.ex;u.lt
theorem CE.ai{g:Nat}{t:TypeId}{u:Ck}(h:CE w b s)(E:Aq w g t u):b≠g:=let⟨_,_,H,_⟩:=h.ex;H.ai E
theorem CE.bq{za:Nat}{v:Aw}{xs:An}(h:CE w b s)(u:Ay w za v xs):some b≠v.ownBlock:=let⟨_,_,E,_⟩:=h.ex;E.bq u
theorem JN(w:Aj){zf:Array Oper}{rest:List Oper}{o:Oper}{a:Act}{Q:Exit->Act->Aj->Prop}(E:o.guard=none)(m x v:Operand)(H:o.op=Op.mapUpdate 174 m x v) (b:Nat)(s:Int->Bool)(J:a.eval m=.map (some b))(O:CE w b s)(u:Int)(T:a.eval x=u)(U:-1000000<=u/\u<=1000000)(y:Bool)(V:a.eval v=.int .i64 (if y then 1 else 0)) (Z:∀w',CE w' b (λt=>if t=u then y else s t)->w.grownBy w' (some b)->wpList prog zf Q rest (a.put o.dst undef) w'):wpList prog zf Q (o::rest) a w:=by refine x5 E λad aa=>?_;obtain⟨w',hrun,ab,ac⟩:=O.set U y;unfold Oper.wp;simp[execOp,H,J,T,V,hrun,Result.andThen];exact aa _ _ (Z w' ab ac)
theorem Nz(w:Aj){zf:Array Oper}{rest:List Oper}{o:Oper}{a:Act}{Q:Exit->Act->Aj->Prop}(E:o.guard=none)(m x v:Operand)(H:o.op=Op.mapUpdate 174 m x v) (b:Nat)(s:Int->Bool)(J:a.eval m=.map (some b))(O:CE w b s)(u:Int)(T:a.eval x=u)(Z:0<=u/\u<=100000)(y:Bool)(U:a.eval v=.int .i64 (if y then 1 else 0)) (V:∀w',CE w' b (λt=>if t=u then y else s t)->w.grownBy w' (some b)->wpList prog zf Q rest (a.put o.dst undef) w'):wpList prog zf Q (o::rest) a w:=JN w E m x v H b s J O u T Ad y U V
def Lj(q ms:Nat)(lv:Aw)(b:Nat):Prop:=b=q\/b=ms\/lv.ownBlock=some b
def Dw(w w':Aj)(B q ap tp ms:Nat)(lv:Aw)(P:Ex):Prop:=∃u,Fs w' B q ap tp ms u P/\Au (Lj q ms lv) w w'/\∀b,Lj q ms u b->Lj q ms lv b\/w<=b
theorem Dw.refl(h:Fs w B q ap tp ms lv P):Dw w w B q ap tp ms lv P:=⟨lv,h,Au.refl _ _,λ_ hb=>.inl hb⟩
theorem Dw.ext{w2:Aj}(h:Dw w w' B q ap tp ms lv P)(u:Ae w' w2):Dw w w2 B q ap tp ms lv P:=by obtain⟨E,H,J,O⟩:=h;exact⟨E,H.ext u,J.aR u,O⟩
theorem Dw.trans{u w2:Aj}{E:Aw}{H:Ex}(J:Au (Lj q ms lv) w u)(O:∀b,Lj q ms E b->Lj q ms lv b\/w<=b)(k:Dw u w2 B q ap tp ms E H):Dw w w2 B q ap tp ms lv H:=by obtain⟨T,U,V,Z⟩:=k;refine⟨T,U,J.trans V (λj ab aa=>?_),λb hb=>?_⟩;rcases O j aa with h|h;exact h;omega;rcases Z b hb with h|h;exact O b h;exact .inr (z7 J.size h)
theorem Fs.ge(h:Fs w B q ap tp ms lv P){b:Nat}(hb:Lj q ms lv b):B<=b:=by rcases hb with rfl|rfl|hb;exact h.cO;exact h.bu;exact(h.own.J b hb).1
theorem Fs.lt(h:Fs w B q ap tp ms lv P){b:Nat}(hb:Lj q ms lv b):b<w:=by rcases hb with rfl|rfl|hb;exact h.J.lt;exact h.seen.lt;exact(h.own.J b hb).2
theorem Au.after{F:Nat->Prop}(h:Ae w0 w)(s:Au F w w')(hF:∀b,F b->w0<=b):Ae w0 w':=(Au.ay h s).ext hF
theorem Ww(h:Fs w B q ap tp ms lv P){E W:Aj}{J:Int->Bool}(H:w.grownBy E (some ms))(O:CE E ms J)(u:Ae E W){m:Int}(T:-1000000<=m/\m<=1000000):Dw w (W.setCell ⟨q,4,none⟩ m) B q ap tp ms lv ⟨J,P.lits,m⟩:=by have nq:=h.seen.ai h.J;refine⟨lv,⟨(Aq.ext (h.J.grown H (by simpa using yb nq)) u).ad 4 _,(O.ext u).keep (yt _ _ _ _ (by simpa using nq)),((h.own.kept H (.inr (yb (h.seen.bq h.own)))).ext u).setCell (p:=⟨q,4,none⟩) (λk e g=>by subst g;exact(h.own.ai h.J Ax) e) _,h.cO,h.bu,T,h.dp,h.dj⟩,?_,λb hb=>.inl hb⟩;exact(((Au.refl _ w).grown H (λk e=>by cases e;exact .inl (.inr (.inl rfl)))).aR u).setCell (.inl (.inl rfl)) _
theorem Ab2(h:Fs w B q ap tp ms lv P){H O:World}{V:Int->Bool}(T:w.grownBy H (some ms))(ac:CE H ms V){W:World}(J:Ae H W){u:Value}{l:Int}(U:W.grownBy O lv.ownBlock)(ad:Ay O B u (P.lits++[l])) (ae:u.ownBlock=lv.ownBlock\/u.ownBlock=some W.heap.size)(al:P.lits.length+1<=1000000)(af:-100000<=l/\l<=100000):Dw w (O.setCell ⟨q,3,none⟩ u) B q ap tp ms lv ⟨V,P.lits++[l],P.many⟩:=by
 have nq:ms≠q:=h.seen.ai h.J;have Z:=h.own.ai h.J (by decide);have ag:Aq H q 312 #[.pointer ap,.pointer tp,.map (some ms),lv,P.many]:=h.J.grown T (by simpa using yb nq);have ah:=Aq.grown (Aq.ext ag J) U (yb Z);have aj:w.heap.size<=W.heap.size:=z7 T.size J.size_le;have aa:∀k,u.ownBlock=some k->lv.ownBlock=some k\/w<=k:=λk e=>by rcases ae with g|g;exact .inl (g▸e);rw[g]at e;injection e with e;subst e;exact .inr aj
 have ab:=ac.ext J;have ak:=ab.keep (U.block ms (ab.lt) (h.seen.bq h.own));refine⟨u,⟨ah.ad 3 _,ak.keep (yt _ _ _ _ (by simpa using nq)),ad.setCell (p:=⟨q,3,none⟩) (λk e g=>?_) _,h.cO,h.bu,h.ao,Ca,λx E=>?_⟩,?_,λb hb=>?_⟩;subst g;rcases aa _ e with g|g;exact Z g;have:=h.J.lt;omega;rcases zz.1 E with E|E;exact h.dj x E;rw[zy.1 E];exact af;exact(((Au.refl _ w).grown T (λk e=>by cases e;exact .inl (.inr (.inl rfl)))).aR J|>.grown U (λk e=>.inl (.inr (.inr e)))).setCell (.inl (.inl rfl)) _;rcases hb with rfl|rfl|hb;exact .inl (.inl rfl);exact .inl (.inr (.inl rfl));exact(aa b hb).imp (λg=>.inr (.inr g)) id
end
def Yy(R:List AH)(d but:Int)(P:Ex)(l:Int):P.many<=(Eu R d but P l).many/\(Eu R d but P l).many<=P.many+1/\(Eu R d but P l).lits.length<=P.lits.length+1:=by unfold Eu;(repeat' split)<;>simp<;>omega
def Zd(R:List AH)(d but:Int)(P:Ex){c:An}{k:Nat}{l:Int}(h:c[k]? =some l):CH R d but P (c.take (k+1))=Eu R d but (CH R d but P (c.take k)) l:=by unfold CH;rw[AM h,xr];rfl
def Zc(R:List AH)(d but:Int)(P:Ex):∀c:An,P.many<=(CH R d but P c).many/\(CH R d but P c).many<=P.many+c.length/\(CH R d but P c).lits.length<=P.lits.length+c.length:=by
 intro c;unfold CH;induction c generalizing P with
 |nil=>simp
 |cons x c u=> have E:=Yy R d but P x;have H:=u (Eu R d but P x);simp only[List.foldl_cons,List.length_cons];omega
def Im{S:Fb}(h:CG S)(x:Int):(∀l∈BY S.rows x,-100000<=l/\l<=100000)/\(BY S.rows x).length<=1000:=by
 unfold BY;cases e:S.rows.find? (BR x)with
 |none=>simp
 |some r=> have:=h.ok r (y0 e);exact⟨this.2.2,this.2.1⟩
def Mu{R:List AH}{d but:Int}{P:Ex}{l:Int}(h:Ak l=but\/P.seen (Ak l)=true\/AR R (Ak l)<=0):Eu R d but P l=P:=by unfold Eu;rw[zq h]
def Uy(T w:Aj)(aN ap aO:Nat)(aP:Aw)(aQ:Nat)(S:Fb)(za p aA:Nat)(lv aB:Aw)(zb:Nat)(R:List AH)(J:An)(q ah:Nat)(Cx:Aw)(P:Ex)(x but:Int) (aR:BL T aN ap aO aP aQ S)(aS:Bm T za p aA lv aB zb R J)(aT:Ae T w)(aj:Fs w T q ap p ah Cx P)(bi:-9223372036854775808<=x/\x<=Bh)(bJ:0<=P.many/\P.many<=500000)(aU:P.lits.length<=500000):AC 230 #[.pointer q,x,but] w λe w'=>e=.returned (.tuple #[])/\Dw w w' T q ap p ah Cx (CH R J.length but P (BY S.rows x)):=by
 obtain⟨au,bj⟩:=Im aR.inv x;have bk:=aj.J.cell 0;have aC:=aj.J.cell 1;have av:=zk au;generalize aV:BY S.rows x=c at bj av;have bn:=zk aV;clear au aV;go_enter func230,ntmps230;go_wp2_with fail
 refine(I9 _ aN ap aO aP aQ S x (aR.ext aT) bi).mono ?_;rintro e br⟨v1,rfl,ak,aW⟩;rw[bn.out]at ak;obtain⟨aX,aa,bK,rfl,aY,_⟩:=ak.aQ Ad (λl aU=>by have:=av l aU;omega);have bt:=aY.1;have aZ:0<aa->Fa (Lj q ah Cx) aX:=λbL bu e hF=>by subst e;obtain⟨g,zh,e,_⟩:=ak.full (λe=>by subst e;simp at bt;omega);injection e with aD bM bw;injection aD with aD;subst aD;have bx:=aj.lt hF;have bN:=(ak.J g rfl).1;dsimp only at bx;omega
 have bz:=zk aZ;have aw:=aW;clear ak aZ aW bk aC;go_wp2;go_loopw[22](λi wr=>∃k:Nat,i=k/\k<=aa/\Dw br wr T q ap p ah Cx (CH R J.length but P (c.take k)))(λi _=>aa-(intOf i).toNat);case atStart=>exact⟨0,rfl,zx _,by rw[List.take_zero];exact Dw.refl (aj.ext aw)⟩
 case round=>
  obtain⟨k,rfl,bO,ax,ab,V,hF⟩:=hrel;have aE:AB wr aX aa c:=aY.cf V bz;have ae:=zk hF;clear hF;by_cases a1:k<aa
  . obtain⟨bu,l,rfl,aF,ay,bP,bQ⟩:=aE.at_ a1;have bR:=av l (zm aF);obtain⟨E,a5⟩:∃E,CH R J.length but P (c.take k)=E:=⟨_,rfl⟩;have aG:=Zd R J.length but P aF;have a6:=Zc R J.length but P (c.take k);have a7:(c.take k).length=k:=by rw[ya];omega
    rw[a7]at a6;rw[a5]at aG a6 ab;have al:=zk aG;have Z:=ab;have aC:=Z.J.cell 1;have bA:=Z.J.cell 2;have bS:=Z.J.cell 3;have bT:=Z.J.cell 4;have aH:Ae T wr:=Au.after (aT.trans aw) V (λb hb=>aj.ge hb);have bU:(0:Int)<=(k:Int):=Ad;have bV:(k:Int)<(aa:Int):=Ad;clear aE a5 aG a7;by_cases af:Ak l=but
    . have am:Hid (Ak l=but\/E.seen (Ak l)=true\/AR R (Ak l)<=0):=zk (.inl af);have bB:(Ak l==but)=true:=by simpa using af
      clear af;go_wp2_with fail
      refine(BF _ _).mono ?_;rintro e w2⟨rfl,rfl⟩;go_wp2;go_roundw;case rel=>exact⟨k+1,by go_num,Ad,ax,by rw[al.out,Mu am];exact ab,V,ae⟩
      case measure=>simp[intOf];omega
    . have bB:(Ak l==but)=false:=by simpa using af
      have a8:=zk af;clear af;cases ag:E.seen (Ak l)with
      |true=>
       have hrun:=Z.seen.cR (Kh l) ag;have am:Hid (Ak l=but\/E.seen (Ak l)=true\/AR R (Ak l)<=0):=zk (.inr (.inl ag));clear ag;go_wp2_with fail
       refine(BF _ _).mono ?_;rintro e w2⟨rfl,rfl⟩;go_wp2;go_roundw;case rel=>exact⟨k+1,by go_num,Ad,ax,by rw[al.out,Mu am];exact ab,V,ae⟩
       case measure=>simp[intOf];omega
      |false=>
       have hrun:=Z.seen.cA (Kh l) ag;have a9:=zk ag;obtain⟨z,aI⟩:∃z,AR R (Ak l)=z:=⟨_,rfl⟩;have ay:=λW(O:Ae T W)=>GS W za p aA lv aB zb R J (Ak l) (aS.ext O);rw[aI]at ay;have an:=zk aI;have aJ:=zk ay;clear ag aI ay;by_cases bC:z<=0
       . have am:Hid (Ak l=but\/E.seen (Ak l)=true\/AR R (Ak l)<=0):=zk (.inr (.inr (by rw[an.out];exact bC)));go_wp2_with fail
         refine(BF _ _).mono ?_;rintro e w2⟨rfl,rfl⟩;go_wp2_with fail
         refine(aJ _ aH).mono ?_;rintro e w2⟨rfl,ac⟩;skip;go_wp2;go_roundw;case rel=>exact⟨k+1,by go_num,Ad,ax,by rw[al.out,Mu am];exact ab.ext ac,V.aR ac,ae⟩
         case measure=>simp[intOf];omega
       . go_wp2_with fail
         refine(BF _ _).mono ?_;rintro e w2⟨rfl,rfl⟩;go_wp2_with fail
         refine(aJ _ aH).mono ?_;rintro e w2⟨rfl,ac⟩;have H:=Z.ext ac;have aC:=H.J.cell 1;have bA:=H.J.cell 2;clear Z;go_wp2_with(at_mapUpdate;refine Nz _ rfl _ _ _ rfl ah E.seen rfl H.seen (Ak l) rfl (Ir l) true rfl ?_;intro ba bc ao;skip)
         have aK:Ae T ba:=(aH.trans ac).grown ao (λb e=>by cases e;exact H.bu);have ad:=Aq.grown H.J ao (by have:=H.seen.ai H.J;simpa using yb this);have d1:=ad.cell 1;have d3:=ad.cell 3;have d4:=ad.cell 4;have f4:=ad.frozen 4;have f3:=ad.frozen 3;have bd:=λW(O:Ae ba W)=>O.cell d1;skip;by_cases az:z=(J.length:Nat);focus have au:(z==((J.length:Nat):Int))=true:=by simpa using az
         rotate_left;focus have au:(z==((J.length:Nat):Int))=false:=by simpa using az
         all_goals have be:=zk az;clear az;refine AL AJ ?_;(repeat first|apply Bg rfl (λW O=>Am) Am|apply AS rfl Am);apply Bu (λW O=>aJ W (aK.trans O)) rfl (λW O=>by go_simp) Am;(repeat first|apply Bg rfl (λW O=>Am) Am|apply AS rfl Am);apply Bu (λW O=>Lh W za p aA lv aB zb R J (aS.ext (aK.trans O))) rfl (λW O=>by go_simp) Am;(repeat first|apply Bg rfl (λW O=>Am) Am|apply AS rfl Am);refine AN λW U=>?_
         . have bw:=U.cell d3;have bW:W.frozen? ⟨q,3,none⟩=false:=(U.frozen d3).trans f3;have bD:=Aq.ext ad U;have bE:=(H.own.kept ao (.inr (yb (H.seen.bq H.own)))).ext U;have bF:=zk (H.own.ai H.J Ax);have bG:Hid (T.heap.size<=W.heap.size):=zk (z7 aK.size_le U.size_le);clear bd d1 d3 d4 f4 f3 ad;go_wp2_with(at_builtin;refine BW _ rfl (.tmp 71) (.tmp 73) rfl T.heap.size _ E.lits rfl (bE.alloc _) _ _ _ rfl (BD _ _ _) (by omega) (by omega) (by have:=bG.out;simp;omega) ?_;intro bX bY aL bf bh;obtain⟨bZ,b0,b1,rfl⟩:=aL.form;have aM:=Aq.grown (Aq.alloc bD _) bf (yb bF.out);have b2:=aM.cell 3;have t3:=aM.frozen 3;clear aM;have bH:=aL;have bI:=zk bh;clear aL bh)
           go_roundw;case rel=>
            have aq:=Ab2 H ao bc (U.alloc _) bf bH bI (by omega) (av l (zm aF));have e:CH R J.length but P (c.take (k+1))=⟨λu=>if u=Ak l then true else E.seen u,E.lits++[l],E.many⟩:=by rw[al.out];unfold Eu;rw[zo (by rw[a9.out,an.out];rintro(g|g|g)<;>first|exact a8 g|cases g|omega),zo (by rw[an.out];exact be)];rfl
            rw[<-e]at aq;exact⟨k+1,by go_num,Ad,Dw.trans (V.aR ac) (λb hb=>ae b hb) aq⟩
           case measure=>simp[intOf];omega
         . have b3:=U.cell d4;have b4:W.frozen? ⟨q,4,none⟩=false:=(U.frozen d4).trans f4;have b5:-1000000<=E.many:=Ad;have b6:E.many<=501000:=Ad;clear bd d1 d3 d4 f4;go_wp2;go_roundw;case rel=>
            have aq:=Ww H ao bc U (m:=E.many+1) Ad;have e:CH R J.length but P (c.take (k+1))=⟨λu=>if u=Ak l then true else E.seen u,E.lits,E.many+1⟩:=by rw[al.out];unfold Eu;rw[zo (by rw[a9.out,an.out];rintro(g|g|g)<;>first|exact a8 g|cases g|omega),zq (by rw[an.out,be.out])];rfl
            rw[<-e]at aq;exact⟨k+1,by go_num,Ad,Dw.trans (V.aR ac) (λb hb=>ae b hb) aq⟩
           case measure=>simp[intOf];omega
  . obtain rfl:k=aa:=Ad;clear aE a1;go_wp2;go_end0;rw[z1 Ad]at ab;exact⟨rfl,ax,ab,Au.ay aw V,λb hb=>(ae b hb).imp id (λg=>z7 aw.size_le g)⟩
def O1(R:List AH)(d:Int)(s:Int->Bool):∀m:Nat,-1<=DK R d s m/\DK R d s m<m
 |0=>by simp[DK]
 |m+1=>by
  have u:=O1 R d s m;unfold DK;cases R[m]? with
  |none=>dsimp only;omega
  |some r=>dsimp only;split<;>omega
def RT{R:List AH}{cl:Int->Option An}{d:Int}(H:Bq R cl d){n:Nat}{P:Ex}(h:Gy R d (n+1) P)(aa:¬P.many<=1)(ab:∀r,R[n]? =some r->¬(Br d P.seen r=true/\0<=r.reason)):Gy R d n P:=by
 refine⟨h.lits,h.vars,λv T=>?_,h.many⟩;obtain⟨j,s,u,U,ac,al,ad⟩:=h.seen v T;refine⟨j,s,u,U,ac,λae=>?_,ad⟩;rcases aab j n with V|V;exact V;have:j=n:=Ad;subst this;exfalso;have af:Br d P.seen s=true:=by simp[Br,U,T,ae]
 have ag:s.reason<0:=by rcases Int.lt_or_le s.reason 0 with h|h;exact h;exact absurd ⟨af,h⟩ (ab s u)
 apply aa;rw[h.many];have:=filter_one H.aj (p:=Br d P.seen) (r:=s) λt ah J=>by simp only[Br,z4,z8]at J;obtain⟨k,O⟩:=z0 ah;obtain⟨Z,t2,E,aj,_,ak,_⟩:=h.seen _ J.1;have:=Dk H.aj E O aj;subst this;rw[E]at O;cases O;have am:=ak J.2;have an:=H.first j Z s t u E ag Ad;have:Z=j:=Ad;subst this;rw[E]at u;cases u;rfl
 omega
def XU(R:List AH)(cl:Int->Option An)(d:Int)(n:Nat)(P:Ex):DS R cl d (n+1) P=if P.many<=1 then P else match R[n]? with
 |some r=>if Br d P.seen r=true/\0<=r.reason then DS R cl d n (CH R d (Ak r.lit) ⟨DG P (Ak r.lit) false,P.lits,P.many-1⟩ ((cl r.reason).getD []))else DS R cl d n P
 |none=>DS R cl d n P:=rfl
def Lc{R:List AH}{cl:Int->Option An}{d:Int}(J:Bq R cl d){P:Ex}(E:¬P.many<=1):∀(m:Nat),Gy R d m P->(DK R d P.seen m<0->DS R cl d m P=P)/\∀i:Nat,DK R d P.seen m=i->i<m/\∃r,R[i]? =some r/\Br d P.seen r=true/\0<=r.reason/\Gy R d (i+1) P/\DS R cl d m P=DS R cl d i (CH R d (Ak r.lit) ⟨DG P (Ak r.lit) false,P.lits,P.many-1⟩ ((cl r.reason).getD []))
 |0,h=>⟨λ_=>rfl,λi hi=>by unfold DK at hi;omega⟩
 |m+1,h=>by
  rw[XU,zo E];unfold DK;cases O:R[m]? with
  |none=> obtain⟨T,U⟩:=Lc J E m (RT J h E (λr H=>by rw[O]at H;cases H));exact⟨T,λi hi=>by obtain⟨a,b⟩:=U i hi;exact⟨Ad,b⟩⟩
  |some r=> dsimp only;by_cases u:Br d P.seen r=true/\0<=r.reason;rw[zq u,zq u];refine⟨λV=>Ad,λi hi=>?_⟩;obtain rfl:m=i:=Ad;exact⟨Ad,r,O,u.1,u.2,h,rfl⟩;rw[zo u,zo u];obtain⟨T,U⟩:=Lc J E m (RT J h E (λZ H=>by rw[O]at H;cases H;exact u));exact⟨T,λi hi=>by obtain⟨a,b⟩:=U i hi;exact⟨Ad,b⟩⟩
def Abn{R:List AH}{cl:Int->Option An}{d:Int}{P:Ex}(u:P.many<=1):∀m,DS R cl d m P=P
 |0=>rfl
 |m+1=>by unfold DS;rw[zq u]
def Afy{R:List AH}{d:Int}{n:Nat}{P:Ex}(h:Gy R d n P):0<=P.many/\P.many<=R.length/\P.lits.length<=100001:=by refine⟨by rw[h.many];omega,by rw[h.many];have:=yl (Br d P.seen) R;omega,?_⟩;have:=yf (l₂:=(List.range 100001).map λk=>((k:Nat):Int)) h.vars (λx u=>by obtain⟨y,_,rfl⟩:=zw.1 u;have:=Ir y;exact zw.2 ⟨(Ak y).toNat,zv.2 Ad,Ad⟩);simpa using this
def Kw(zc:List Cf)(x:Int):BY zc x=(AY zc x).getD []:=by unfold BY AY;cases zc.find? (BR x)<;>rfl
structure AiA(R:List AH)(cl:Int->Option An)(d:Int)(zi:An)(P0:Ex)(m:Nat)(P:Ex):Prop where
 inv:Gy R d m P
 cK:JC R cl d zi P
 bl:DS R cl d R.length P0=DS R cl d m P
 le:m<=R.length
def PO(d:Int)(zg:Int->Bool){R:List AH}{k:Nat}{r:AH}(h:R[k]? =some r):((R.take (k+1)).filter (Br d zg)).map (λr=>-r.lit)=((R.take k).filter (Br d zg)).map (λr=>-r.lit)++if Br d zg r then[-r.lit]else[]:=by rw[AM h,y5,yo];cases e:Br d zg r<;>simp[e]
def AgG(B q ap E H:Nat)(Cx:Aw)(L:An)(w:Aj)(e:Bz)(w':Aj):Prop:=∃u,e=.returned (.tuple #[])/\Dw w w' B q ap E H Cx u/\u.lits=L
def Fs.eO{w:Aj}{B q ap E u:Nat}{lv:Aw}{P:Ex}(h:Fs w B q ap E u lv P):some q≠some u:=by have:=h.seen.ai h.J;simpa using yb this
def T5(w:Aj)(r:Option Nat):w.grownBy w r:=⟨rfl,rfl,rfl,zs _,λ_ _ _=>rfl⟩
def AeC(J w:Aj)(aZ ap a1:Nat)(a5:Aw)(a6:Nat)(S:Fb)(za p ac:Nat)(lv ad:Aw)(zb:Nat)(R:List AH)(E:An)(q O:Nat)(Cx:Aw)(P:Ex)(A:AD)(c:Nat)(zi:An)
 (bL:BL J aZ ap a1 a5 a6 S)(ae:Bm J za p ac lv ad zb R E)(an:Ae J w)(ak:Fs w J q ap p O Cx P)(af:Bq R (AY S.rows) E.length)(bM:Gy R E.length R.length P)(bN:JC R (AY S.rows) E.length zi P)
 (ao:AB w A R.length (Az R))(ay:0<R.length->Fa (Lj q O Cx) A)(cA:R.length<=100000)(bO:∀r∈R,r.reason<=Bh):
 AC 231 #[.pointer q,.slice A R.length c] w
  (AgG J q ap p O Cx ((DS R (AY S.rows) E.length R.length P).lits++DI R E.length (DS R (AY S.rows) E.length R.length P)) w):=by
 skip
 go_enter func231,ntmps231
 go_wp2_with fail
 refine(Tl _ za p ac lv ad zb R E J q ap O Cx P A c R.length (ae.ext an) af.aj ak ao (zs _)).mono ?_
 rintro e cB⟨rfl,bP⟩
 skip
 go_wp2
 go_loopw[4](λi wr=>∃(m:Nat)(u:Ex),i=(DK R E.length u.seen m)/\AiA R (AY S.rows) E.length zi P m u/\Dw w wr J q ap p O Cx u)(λi _=>(intOf i+1).toNat)
 case atStart=>exact⟨R.length,P,rfl,⟨bM,bN,rfl,zs _⟩,(Dw.refl ak).ext bP⟩
 case round=>
  obtain⟨m,u,rfl,ag,bQ,V,ah,al⟩:=hrel
  have bR:AB wr A R.length (Az R):=ao.cf ah ay
  have bS:Ae J wr:=Au.after an ah (λb hb=>ak.ge hb)
  have bT:=O1 R E.length u.seen m
  have bU:=Afy ag.inv
  have cC:=ag.le
  have a7:=V.J.cell 4
  have f4:=V.J.frozen 4
  skip
  by_cases a8:1<u.many/\0<=DK R E.length u.seen m
  . obtain⟨cD,a9⟩:=a8
    obtain⟨i,hi⟩:=y1 a9
    obtain⟨cE,r,U,ba,bc,bd,az⟩:=(Lc af Ad m ag.inv).2 i hi
    simp only[Br,z4,z8]at ba
    obtain⟨Z,be⟩:=ba
    obtain⟨aA,aB⟩:=OC af bd ag.cK U be Z bc
    have bV:i<R.length:=Ad
    obtain⟨aC,l,rfl,aD,bW,aE,bX⟩:=bR.at_ bV
    have bY:l=r.lit:=by
     have:=Co U
     rw[aD.out]at this
     injection this
    subst bY
    have bf:=(Dx af.aj U).2
    obtain⟨y,aF⟩:∃y,r.reason=y:=⟨_,rfl⟩
    have bh:=bO r (zm U)
    have aG:=λW(H:Ae J W)=>Hl W za p ac lv ad zb R E (Ak r.lit) (ae.ext H)
    rw[bf,aF]at aG
    rw[aF]at bh bc aA aB az
    have bZ:=aG
    have b0:=aA
    have b1:=aB
    have b2:=zk az
    have b3:(-9223372036854775808<=y/\y<=Bh):=⟨Ad,bh⟩
    have aH:=V.J.cell 2
    rw[hi]
    have cF:(0:Int)<=(i:Int):=Ad
    have cG:(i:Int)<(R.length:Int):=Ad
    clear bf aG aA aB az be Z U aD bd aF hi a9
    go_wp2_with fail
    refine(BF _ _).mono ?_
    rintro e w2⟨rfl,rfl⟩
    go_wp2_with(at_mapUpdate;refine Nz _ rfl _ _ _ rfl O u.seen rfl V.seen (Ak r.lit) rfl (Ir r.lit) false rfl ?_;intro bi bj bk;have b4:CE bi O (DG u (Ak r.lit) false):=bj;clear bj;have aq:=Aq.grown V.J bk (V.eO);have d1:=aq.cell 1;have d4:=aq.cell 4;have b5:=aq.frozen 4;have cH:-1000000<=u.many:=Ad;have cI:u.many<=1000000:=Ad;clear a7 f4 aH aq;skip)
    have aI:=Ww V bk b4 (Ae.refl _) (m:=u.many-1) Ad
    obtain⟨b6,bn,T,br⟩:=aI
    have bt:=bn.J.cell 1
    skip
    have aJ:Ae J (bi.setCell ⟨q,4,none⟩ (.int .i64 (u.many-1))):=Au.after bS T (λb hb=>V.ge hb)
    refine(bZ _ aJ).mono ?_
    rintro e b7⟨rfl,au⟩
    have b8:=bn.ext au
    have b9:=aJ.trans au
    clear aJ bt d1 d4 b5
    go_wp2_with fail
    refine(Uy J _ aZ ap a1 a5 a6 S za p ac lv ad zb R E q O b6 _ y (Ak r.lit) bL ae b9 b8 b3 (by dsimp only;omega) (by dsimp only;omega)).mono ?_
    rintro e aK⟨rfl,aL,av,bu,bw⟩
    have cc:=av.ext (Ae.refl _)
    rw[Kw]at av
    have bx:=av
    have ce:=bu
    have cf:=bw
    have aM:Hid (Au (Lj q O Cx) w aK):=by
     refine((ah.trans (T.aR au) (λb hb am=>(al b am).resolve_right Ad)).trans ce (λb hb am=>?_))
     rcases br b am with g|g
     exact(al b g).resolve_right Ad
     have:=ah.size;omega
    have cg:Hid (∀b,Lj q O aL b->Lj q O Cx b\/w<=b):=by
     intro b hb
     rcases cf b hb with g|g
     rcases br b g with g|g
     exact al b g
     exact .inr (z7 ah.size g)
     exact .inr (z7 (ah.trans (T.aR au) (λb hb am=>(al b am).resolve_right Ad)).size g)
    have ch:AB aK (some aC) R.length (Az R):=ao.cf aM ay
    have ci:Hid (Ae J aK):=Au.after an aM (λb hb=>ak.ge hb)
    clear av bu bw cc
    go_wp2_with fail
    refine(Tl _ za p ac lv ad zb R E J q ap O aL _ (some aC) c i (ae.ext ci) af.aj bx ch Ad).mono ?_
    rintro e cJ⟨rfl,bz⟩
    skip
    go_wp2
    go_roundw
    case rel=>exact⟨i,_,rfl,⟨b0,b1,ag.bl.trans b2,Ad⟩,⟨aL,bx.ext bz,aM.aR bz,cg⟩⟩
    case measure=>
     have:=O1 R E.length (CH R E.length (Ak r.lit) ⟨DG u (Ak r.lit) false,u.lits,u.many-1⟩ ((AY S.rows y).getD [])).seen i
     simp[intOf];omega
  . have bA:DS R (AY S.rows) E.length R.length P=u:=by
     rw[ag.bl]
     by_cases bB:u.many<=1
     . exact Abn bB m
     . exact(Lc af bB m ag.inv).1 Ad
    have cj:=zk bA
    have cm:(DI R E.length u).length<=R.length:=by
     unfold DI
     rw[z2];exact yl _ _
    have aD:=bU.2.2
    have cn:((E.length:Nat):Int)=((E.length:Nat):Int):=rfl
    have co:Hid (∀k,k<=R.length->((R.take k).filter (Br E.length u.seen)).length<=100000):=λk bC=>by
     have:=yl (Br E.length u.seen) (R.take k)
     rw[ya]at this;omega
    clear bA cm bT cn
    have cp:¬1<u.many\/DK R E.length u.seen m<0:=Ad
    by_cases cK:1<u.many
    focus
     have cq:decide (0<=DK R E.length u.seen m)=false:=zn Ad
     generalize DK R E.length u.seen m=cr at cq
    rotate_left
    focus generalize DK R E.length u.seen m=cr
    all_goals
     clear cp a8
     obtain⟨bD,rfl⟩:∃bD:Aj,bD=wr:=⟨_,rfl⟩
     go_wp2
     go_loopw[57](λi wr=>∃k:Nat,i=k/\k<=R.length/\Dw w wr J q ap p O Cx ⟨u.seen,u.lits++((R.take k).filter (Br E.length u.seen)).map (λr=>-r.lit),u.many⟩)(λi _=>R.length-(intOf i).toNat)
     case atStart=>exact⟨0,rfl,zx _,bQ,by simp only[List.take_zero,List.filter_nil,abd,yg];exact V,ah,al⟩
     case round=>
      clear a7 f4
      obtain⟨k,rfl,bC,aN,T,aj,aw⟩:=hrel
      have aO:AB wr A R.length (Az R):=ao.cf aj ay
      have aP:Ae J wr:=Au.after an aj (λb hb=>ak.ge hb)
      skip
      by_cases bE:k<R.length
      . obtain⟨aC,l,rfl,aE,bW,bX,cL⟩:=aO.at_ bE
        obtain⟨r,U,cs⟩:=EU aE
        subst cs
        have bF:=(Dx af.aj U).1
        have bG:=PO E.length u.seen U
        have aQ:=AU (ae.ok r (zm U))
        have cM:=co k bC
        have ct:=T.J.cell 1
        have aH:=T.J.cell 2
        have cN:(0:Int)<=(k:Int):=Ad
        have bt:(k:Int)<(R.length:Int):=Ad
        obtain⟨z,aR⟩:∃z,r.level=z:=⟨_,rfl⟩
        have aS:=λW(H:Ae J W)=>GS W za p ac lv ad zb R E (Ak r.lit) (ae.ext H)
        rw[bF,aR]at aS
        have cu:=aS
        have aT:=zk bG
        have bH:=zk aR
        clear aO bF bG U aE aR aS
        have aU:=λW(H:Ae wr W)=>H.cell ct
        have aV:=λW(H:Ae wr W)=>H.cell aH
        cases Z:u.seen (Ak r.lit)with
        |false=>
         have hrun:=λW(H:Ae wr W)=>(T.seen.ext H).cA (Kh r.lit) Z
         have aW:=zk Z
         clear Z
         go_wp2_with(go_at_call 141;refine(BF _ _).mono ?_;rintro e w'⟨rfl,rfl⟩)
         refine AL AJ ?_
         (repeat first|apply Bg rfl (λW H=>Am) Am|apply AS rfl Am)
         refine AN λW aa=>?_
         clear aU aV hrun
         go_wp2
         go_roundw
         case rel=>exact⟨k+1,by go_num,Ad,aN,by rw[aT.out];simp only[Br,aW.out,ac7];simp only[acf,if_false,yg];exact T.ext aa,aj.aR aa,aw⟩
         case measure=>simp[intOf];omega
        |true=>
         have hrun:=λW(H:Ae wr W)=>(T.seen.ext H).cR (Kh r.lit) Z
         have aW:=zk Z
         clear Z
         by_cases ax:z=(E.length:Nat)
         focus have cv:(z==((E.length:Nat):Int))=true:=by simpa using ax
         rotate_left
         focus have cv:(z==((E.length:Nat):Int))=false:=by simpa using ax
         all_goals
          skip
          go_wp2_with(go_at_call 141;refine(BF _ _).mono ?_;rintro e w'⟨rfl,rfl⟩)
          refine AL AJ ?_
          (repeat first|apply Bg rfl (λW H=>Am) Am|apply AS rfl Am)
          apply Bu (λW H=>cu W (aP.trans H)) rfl (λW H=>by go_simp) Am
          (repeat first|apply Bg rfl (λW H=>Am) Am|apply AS rfl Am)
          apply Bu (λW H=>Lh W za p ac lv ad zb R E (ae.ext (aP.trans H))) rfl (λW H=>by go_simp) Am
          (repeat first|apply Bg rfl (λW H=>Am) Am|apply AS rfl Am)
          refine AN λW aa=>?_
         . clear aU aV hrun
           go_wp2
           go_roundw
           case rel=>exact⟨k+1,by go_num,Ad,aN,by rw[aT.out];simp only[Br,bH.out,ax,decide_false,Bool.and_false];simp only[acf,if_false,yg];exact T.ext aa,aj.aR aa,aw⟩
           case measure=>simp[intOf];omega
         . have ab:=T.ext aa
           have d3:=ab.J.cell 3
           have f3:=ab.J.frozen 3
           have cx:(J.heap.size<=W.heap.size):=z7 aP.size_le aa.size_le
           have cO:¬r.lit<=-9223372036854775808:=by have:=aQ;omega
           have cP:-9223372036854775808<=-r.lit:=Ad
           have cQ:-r.lit<=Bh:=by have:=aQ;omega
           have bI:Hid ((u.lits++((R.take k).filter (Br E.length u.seen)).map (λr=>-r.lit)).length<=300000):=by unfold Hid;rw[zu,z2];omega
           clear aU aV hrun
           go_wp2_with(at_builtin;refine BW _ rfl (.tmp 88) (.tmp 91) rfl J.heap.size _ (u.lits++((R.take k).filter (Br E.length u.seen)).map (λr=>-r.lit)) rfl (ab.own.alloc _) _ _ _ rfl (BD _ _ _) (by omega) (by have:=bI.out;omega) (by have:=cx;simp;omega) ?_;intro cR b7 aX bJ bK;obtain⟨cS,cT,cU,rfl⟩:=aX.form;have aY:=Aq.grown (Aq.alloc ab.J _) bJ (yb (ab.own.ai ab.J (by decide)));have cV:=aY.cell 3;have t3:=aY.frozen 3;clear aY;have cy:=aX;have cz:=bK;clear aX bK)
           go_roundw
           case rel=>
            have aI:=Ab2 ab (T5 _ _) ab.seen ((Ae.refl _).alloc _) bJ cy cz (by have:=bI.out;dsimp only;omega) (by have:=aQ;omega)
            have e:u.lits++((R.take (k+1)).filter (Br E.length u.seen)).map (λr=>-r.lit)=u.lits++((R.take k).filter (Br E.length u.seen)).map (λr=>-r.lit)++[-r.lit]:=by
             rw[aT.out]
             simp[Br,aW.out,bH.out,ax]
            refine⟨k+1,by go_num,Ad,?_⟩
            rw[e]
            exact Dw.trans (aj.aR aa) (λb hb=>aw b hb) aI
           case measure=>simp[intOf];omega
      obtain rfl:k=R.length:=Ad
      clear aO bE
      go_wp2
      go_end0
      refine⟨_,rfl,⟨aN,T,aj,aw⟩,?_⟩
      rw[x0,cj.out];rfl
structure Hb(w:Aj)(B q ap tp ms ma:Nat)(stop M:Int->Bool):Prop where
 J:Aq w q 318 #[.pointer ap,.pointer tp,.map (some ms),.map (some ma),true]
 stops:CE w ms stop
 marks:CE w ma M
 ne:ms≠ma
 cO:B<=q
 aF:B<=ms
 bu:B<=ma
def LU(w w':Aj)(B q ap tp ms ma:Nat)(stop M:Int->Bool):Prop:=Hb w' B q ap tp ms ma stop M/\Au (λb=>b=ma) w w'
section
variable{w w' w0:World}{B q ap tp ms ma:Nat}{stop M:Int->Bool}
theorem Hb.ext(h:Hb w B q ap tp ms ma stop M)(u:Ae w w'):Hb w' B q ap tp ms ma stop M:=⟨h.J.ext u,h.stops.ext u,h.marks.ext u,h.ne,h.cO,h.aF,h.bu⟩
theorem LU.refl(h:Hb w B q ap tp ms ma stop M):LU w w B q ap tp ms ma stop M:=⟨h,Au.refl _ _⟩
theorem Hb.put(h:Hb w B q ap tp ms ma stop M){E:Int->Bool}(H:CE w' ma E)(u:w.grownBy w' (some ma)):LU w w' B q ap tp ms ma stop E:=by exact⟨⟨h.J.grown u (by simpa using yb (h.marks.ai h.J)),h.stops.keep (u.block ms h.stops.lt (by simpa using h.ne)),H,h.ne,h.cO,h.aF,h.bu⟩,(Au.refl _ w).grown u (λk e=>by injection e with e;exact .inl e.symm)⟩
end
def NU(M:Int->Bool)(i:Int):Int->Bool:=λt=>if t=i then true else M t
def ZL(M:Int->Bool)(i:Int):NU M i i=true:=by unfold NU;rw[zq rfl]
def Nn{M:Int->Bool}{i x:Int}(h:M x=true):NU M i x=true:=by unfold NU;split<;>first|rfl|exact h
def AgU{M:Int->Bool}{i x:Int}(h:NU M i x=true):x=i\/M x=true:=by unfold NU at h;split at h;exact .inl (by assumption);exact .inr h
def Mk(R:List AH)(cl:Int->Option An)(stop:An)(M:Int->Bool)(i:Nat):Prop:=∃r c,R[i]? =some r/\0<=r.reason/\cl r.reason=some c/\-r.lit∉stop/\∀y∈c,y≠r.lit->y∈stop\/∃(j:Nat)(s:AH),M j=true/\R[j]? =some s/\s.lit=-y
def Mk.mono{R:List AH}{cl:Int->Option An}{stop:An}{M u:Int->Bool}{i:Nat}(h:Mk R cl stop M i)(E:∀x,M x=true->u x=true):Mk R cl stop u i:=by obtain⟨r,c,H,J,O,T,U⟩:=h;refine⟨r,c,H,J,O,T,λy V Z=>(U y V Z).imp id (λ⟨j,s,a,b,d⟩=>⟨j,s,E _ a,b,d⟩)⟩
structure Zb(R:List AH)(cl:Int->Option An)(stop c:An)(but:Int)(M M':Int->Bool):Prop where
 mono:∀x,M x=true->M' x=true
 cK:∀l∈c,l≠but->l∈stop\/∃(j:Nat)(s:AH),M' j=true/\R[j]? =some s/\s.lit=-l
 closed:∀i:Nat,M' i=true->M i=true\/Mk R cl stop M' i
def Ag3(R:List AH)(cl:Int->Option An)(stop c:An)(but:Int)(M:Int->Bool)(B q ap tp ms ma:Nat)(E:Int->Bool)(w:Aj)(e:Bz)(w':Aj):Prop:=∃u,e=.returned (.tuple #[])/\LU w w' B q ap tp ms ma E u/\Zb R cl stop c but M u
def AaX(w0:Aj)(aN ap aO:Nat)(aP:Aw)(aQ:Nat)(S:Fb)(za p ax:Nat)(lv ay:Aw)(zb:Nat)(R:List AH)(az:An)(q ms ma:Nat)(stop:An)(aA:Int->Bool)(d:Int)
 (ab:BL w0 aN ap aO aP aQ S)(aR:Bm w0 za p ax lv ay zb R az)(am:Bq R (AY S.rows) d)(bn:∀x,aA x=Bd stop x)(cI:∀x∈stop,-100000<=x/\x<=100000)(cJ:R.length<=100000)(bT:∀r∈R,r.reason<=Bh):
 ∀(n:Nat)(w:Aj)(x but:Int)(c:An)(M:Int->Bool),Ae w0 w->Hb w w0 q ap p ms ma aA M->AY S.rows x=some c->
  (∀l∈c,l≠but->FU R (AY S.rows) stop l/\∀(i:Nat)(r:AH),R[i]? =some r->r.lit=-l->i<n)->
  AC 236 #[.pointer q,x,but] w (Ag3 R (AY S.rows) stop c but M w0 q ap p ms ma aA w):=by
 intro n
 induction n using Nat.strongRecOn with
 |ind n bU=>
  intro w x but c M br an aS bV
  have bW:-9223372036854775808<=x/\x<=Bh:=by
   have:=KJ ab.inv aS
   have bt:=ab.inv.size
   have cK:=ab.len
   omega
  have aT:BY S.rows x=c:=by rw[Kw,aS];rfl
  have aB:=Im ab.inv x
  rw[aT]at aB
  have bX:=an.J.cell 0
  have bu:=zk bn
  have bY:=zk aT
  have bw:=aB.1
  have cL:=aB.2
  clear bn aS aT aB
  go_enter func236,ntmps236
  go_wp2_with fail
  refine(I9 _ aN ap aO aP aQ S x (ab.ext br) bW).mono ?_
  rintro e bZ⟨v1,rfl,ao,aC⟩
  rw[bY.out]at ao
  obtain⟨bx,ac,aD,rfl,bz,_⟩:=ao.aQ Ad (λl b0=>by have:=bw l b0;omega)
  have b1:=bz.1
  have b2:0<ac->Fa (λb=>b=ma) bx:=λcM b3 e hF=>by
   subst e
   obtain⟨g,zh,e,_⟩:=ao.full (λe=>by subst e;simp at b1;omega)
   have V:=(acy e).1
   injection V with V
   subst V
   have bA:=an.marks.lt
   have bt:=(ao.J g rfl).1
   dsimp only at hF
   omega
  have b4:=br.trans aC
  have b5:=aC
  have b6:=an.ext aC
  clear ao aC bX
  go_wp2
  go_loopw[17](λi wr=>∃(k:Nat)(H:Int->Bool),i=k/\k<=ac/\LU bZ wr w0 q ap p ms ma aA H/\Zb R (AY S.rows) stop (c.take k) but M H)(λi _=>ac-(intOf i).toNat)
  case atStart=>exact⟨0,M,rfl,zx _,LU.refl b6,⟨λ_ h=>h,AG,λ_ h=>.inl h⟩⟩
  case round=>
   obtain⟨k,H,rfl,cN,⟨J,ad⟩,ae⟩:=hrel
   have aU:AB wr bx ac c:=bz.cf ad b2
   have af:Ae w0 wr:=Au.after b4 ad (λb hb=>by subst hb;exact an.bu)
   skip
   by_cases bB:k<ac
   obtain⟨b3,l,rfl,bC,cO,b7,b8⟩:=aU.at_ bB
   have bD:=zm bC
   have bE:=AM bC
   have bF:=zk bE
   have cP:(0:Int)<=(k:Int):=Ad
   have cQ:(k:Int)<(ac:Int):=Ad
   clear aU bE
   have aV:(l=but\/l∈stop\/∃(j:Nat)(s:AH),H j=true/\R[j]? =some s/\s.lit=-l)->Zb R (AY S.rows) stop (c.take (k+1)) but M H:=λh=>⟨ae.mono,λy O Z=>by
    rw[bF.out]at O
    rcases zz.1 O with O|O
    exact ae.cK y O Z
    rw[zy.1 O]at Z⊢
    exact h.resolve_left Z,ae.closed⟩
   skip
   by_cases T:l=but
   have aq:=aV (.inl T)
   have b9:(l==but)=true:=by simpa using T
   clear T
   go_wp2_with(go_at_call 141;refine(BF _ _).mono ?_;rintro e w'⟨rfl,rfl⟩)
   refine AL AJ ?_
   (repeat first|apply Bg rfl (λW u=>Am) Am|apply AS rfl Am)
   refine AN λW E=>?_
   skip
   go_wp2
   go_roundw
   case rel=>exact⟨k+1,H,by go_num,Ad,⟨J.ext E,ad.aR E⟩,aq⟩
   case measure=>simp[intOf];omega
   have b9:(l==but)=false:=by simpa using T
   have cc:=bw l bD
   obtain⟨cR,cS⟩:=cc
   have aD:=J.J.cell 1
   have aW:=J.J.cell 2
   have bG:=J.J.cell 3
   have aX:=λW(u:Ae wr W)=>u.cell aD
   have aY:=λW(u:Ae wr W)=>u.cell aW
   have aZ:=λW(u:Ae wr W)=>u.cell bG
   have inl:Bj l:=by unfold Bj;omega
   have cT:=zk T
   by_cases aa:l∈stop
   have aq:=aV (.inr (.inl aa))
   have hrun:=λW(u:Ae wr W)=>(J.stops.ext u).cR inl (by rw[bu.out];exact CD.2 aa)
   clear T aa
   go_wp2_with(go_at_call 141;refine(BF _ _).mono ?_;rintro e w'⟨rfl,rfl⟩)
   refine AL AJ ?_
   (repeat first|apply Bg rfl (λW u=>Am) Am|apply AS rfl Am)
   refine AN λW E=>?_
   clear aX aY aZ hrun
   go_wp2
   go_roundw
   case rel=>exact⟨k+1,H,by go_num,Ad,⟨J.ext E,ad.aR E⟩,aq⟩
   case measure=>simp[intOf];omega
   . have hrun:=λW(u:Ae wr W)=>(J.stops.ext u).cA inl (by
      rw[bu.out]
      cases e:Bd stop l with
      |false=>rfl
      |true=>exact absurd (CD.1 e) aa)
     obtain⟨a1,a5⟩:=bV l bD T
     obtain⟨i,r,c',hi,ag,bH,au,a6⟩:=a1.next aa
     have a7:=a5 i r hi ag
     have a8:Ak r.lit=Ak l:=by rw[ag];exact Bk l
     have aE:=Ip am.aj hi
     have av:=(Dx am.aj hi).2
     rw[a8]at aE av
     have cU:=(zl.1 hi).1
     have aF:=λW(u:Ae w0 W)=>NA W za p ax lv ay zb R az (Ak l) (aR.ext u)
     rw[aE]at aF
     have cV:(0:Int)<=(i:Int):=Ad
     have a9:Bj (i:Int):=by unfold Bj;omega
     have ba:=zk aF
     have aG:=zk hi
     have aH:=zk ag
     have ce:=zk a7
     have cf:=zk aa
     cases ah:H (i:Int)
     focus
      have bc:=λW(u:Ae wr W)=>(J.marks.ext u).cA a9 ah
      obtain⟨y,O⟩:∃y,r.reason=y:=⟨_,rfl⟩
      rw[O]at av bH au
      have cg:=bT r (zm hi)
      rw[O]at cg
      have bd:=λW(u:Ae w0 W)=>Hl W za p ax lv ay zb R az (Ak l) (aR.ext u)
      rw[av]at bd
      have be:=λW(u:Ae w0 W)=>FW W za p ax lv ay zb R az l (aR.ext u) b7 b8
      have bI:CJ R l=-1:=by
       have bA:-l∈Az R:=by rw[<-ag];exact zm (Co hi)
       have bt:=(EH am.aE).2 bA
       rcases IR R l with h|h|h<;>omega
      rw[bI]at be
      obtain⟨ch,bJ,bK,_⟩:=EZ au
      have hid:=F5 bJ
      have ci:=(ab.inv.ok ch bK).1.1
      have bf:=λW(u:Ae w0 W)=>Nw W aN ap aO aP aQ S y (ab.ext u) Ad
      obtain⟨z,aj⟩:∃z,Bb S.rows y=z:=⟨_,rfl⟩
      rw[aj]at hid bf
      have cW:(z==0)=false:=yv.2 Ad
      have cj:=zk bd
      have cm:=zk be
      have cn:=zk bf
      have bh:=zk au
      have co:=zk a6
      have cp:=zk ah
      have aI:=zk O
      have bL:=zk bH
      have cX:¬l<=-9223372036854775808:=Ad
      clear T aa a1 a5 hi ag au a6 a8 aE av aF ah bd be bI bJ bK hid ci bf aj O a7
     rotate_left
     focus
      have aq:=aV (.inr (.inr ⟨i,r,ah,hi,ag⟩))
      have bc:=λW(u:Ae wr W)=>(J.marks.ext u).cR a9 ah
      clear T aa a1 a5 hi ag au a6 a8 aE av aF ah a7
     all_goals
      go_wp2_with(go_at_call 141;refine(BF _ _).mono ?_;rintro e w'⟨rfl,rfl⟩)
      refine AL AJ ?_
      (repeat first|apply Bg rfl (λW u=>Am) Am|apply AS rfl Am)
      apply Bu (λW u=>ba W (af.trans u)) rfl (λW u=>by go_simp) Am
      (repeat first|apply Bg rfl (λW u=>Am) Am|apply AS rfl Am)
     (apply Bu (λW u=>ba W (af.trans u)) rfl (λW u=>by go_simp) Am)
     (repeat first|apply Bg rfl (λW u=>Am) Am|apply AS rfl Am)
     refine AN λW E=>?_
     clear aX aY aZ hrun bc
     go_wp2
     go_roundw
     case rel=>exact⟨k+1,H,by go_num,Ad,⟨J.ext E,ad.aR E⟩,aq⟩
     case measure=>simp[intOf];omega
     refine AN λW E=>?_
     have d0:=E.cell (J.J.cell 0)
     have d1:=E.cell aD
     clear aX aY aZ hrun bc aD aW bG
     go_wp2_with fail
     refine(cj _ (af.trans E)).mono ?_
     rintro e w2⟨rfl,aJ⟩
     have bM:=E.trans aJ
     have d0:=aJ.cell d0
     have d1:=aJ.cell d1
     clear aJ
     go_wp2_with fail
     refine(cm _ (af.trans bM)).mono ?_
     rintro e bi⟨rfl,aK⟩
     have aw:=bM.trans aK
     have d0:=aK.cell d0
     have d1:=aK.cell d1
     clear aK
     go_wp2_with fail
     refine(cn _ (af.trans aw)).mono ?_
     rintro e cY⟨rfl,rfl⟩
     go_wp2_with fail
     have ak:=J.ext aw
     have cq:=λW(u:Ae bi W)=>u.cell (ak.J.cell 1)
     have cr:=λW(u:Ae bi W)=>u.cell (ak.J.cell 3)
     have cs:=λW(u:Ae bi W)=>(ak.marks.ext u).cA a9 cp
     clear d0 d1
     refine CO (n:=12) AJ rfl rfl ?_
     simp only[List.take_succ_cons,List.take_zero]
     (repeat first|apply Bg rfl (λW u=>Am) Am|apply AS rfl Am)
     apply Bu (λW u=>ba W ((af.trans aw).trans u)) rfl (λW u=>by go_simp) Am
     (repeat first|apply Bg rfl (λW u=>Am) Am|apply AS rfl Am)
     refine AN λW E=>?_
     refine JN _ rfl _ _ _ rfl ma H rfl (ak.marks.ext E) (i:Int) rfl Ad true rfl ?_
     intro bj bN bO
     have bP:CE bj ma (NU H i):=bN
     have bk:=(ak.ext E).put bP bO
     have ct:(Ae w0 bj):=Au.after ((af.trans aw).trans E) bk.2 (λb hb=>by subst hb;exact an.bu)
     clear ak cq cr cs bN bP bO
     go_wp2_with fail
     refine(bU i ce bj y (-l) c' (NU H i) ct bk.1 bh (λaL U Z=>?_)).mono ?_
     refine⟨co aL U Z,λcZ c0 cu cv=>?_⟩
     obtain⟨aW,aM,c9,cx,da,dc,cy⟩:=am.aY i r aG (by rw[aI.out];exact bL)
     rw[aI.out,bh.out]at aM
     injection aM with aM
     subst aM
     have V:=Co aG
     rw[cx]at V
     injection V with V
     obtain⟨j,dd,cz⟩:=cy aL U (by rw[V,aH.out];exact Z)
     obtain⟨s,cA,cB⟩:=EU cz
     have:=Dk am.aj cA cu (by rw[cB,cv])
     omega
     rintro e de⟨bQ,rfl,bR,al⟩
     skip
     go_wp2
     go_roundw
     case rel=>
      refine⟨k+1,bQ,by go_num,Ad,⟨bR.1,(ad.aR (aw.trans E)).trans (bk.2.trans bR.2 (λ_ _ h=>h)) (λ_ _ h=>h)⟩,⟨λz aj=>al.mono z (Nn (ae.mono z aj)),λaL U Z=>?_,λj cC=>?_⟩⟩
      have cD:bQ (i:Int)=true:=al.mono _ (ZL _ _)
      rw[bF.out]at U
      rcases zz.1 U with U|U
      exact(ae.cK aL U Z).imp id (λ⟨j,s,a,b,d⟩=>⟨j,s,al.mono _ (Nn a),b,d⟩)
      rw[zy.1 U]
      exact .inr ⟨i,r,cD,aG,aH⟩
      rcases al.closed j cC with g|g
      rcases AgU g with g|g
      have cE:j=i:=Ad
      subst cE
      refine .inr ⟨r,c',aG,by rw[aI.out];exact bL,by rw[aI.out];exact bh,by rw[aH.out,aaa];exact cf,λcF cG cH=>?_⟩
      exact al.cK cF cG (by rw[<-aH.out];exact cH)
      exact(ae.closed j g).imp id (λh=>h.mono (λz aj=>al.mono z (Nn aj)))
      exact .inr g
     case measure=>simp[intOf];omega
   obtain rfl:k=ac:=Ad
   clear aU bB
   go_wp2
   go_end0
   have bS:=ae
   rw[z1 Ad]at bS
   exact⟨H,rfl,⟨J,Au.ay b5 ad⟩,bS⟩
