import Derived.Test.YtdmempceikifeaaGreatShelf
import Derived.Test.YtdmempceikifeaaGreatA04
import Derived.Test.YtdmempceikifeaaGreatA05
set_option maxRecDepth 100000
set_option maxHeartbeats 16000000
set_option linter.all false
namespace Go.Proofs.YtdmempceikifeaaGreat
open Go.RowKit Tryz
def Kl(r:Ba):List Aw:=[r.st,r.aq,r.ax,r.aT]
def MR(r):(Kl r).length=4:=rfl
def AdK(r:Ba):Aw:=.agg #[r.st,r.aq,r.ax,r.aT]
def TH(r:Ba):Obj:=.cells #[r.st,r.aq,r.ax,r.aT] 126
def CX(n top:Int):Bool:=decide (0<=n)&&decide (n<top)
def Ef(n top w):Calls prog 130 #[.int .i64 n,.int .i64 top] w λe w'=>e=.returned (.bool (CX n top))/\w=w':=by
 unfold CX;by_cases u:0<=n
 . have d1:=zt u;go_enter func130,ntmps130;go_wp2;go_ret;simp_all
 . have d1:=zn u;go_enter func130,ntmps130;go_wp2;go_ret;simp_all
def AaQ(x y:Int):Int:=if x≠0 then x else y
def Agj(A c x y w)(H:AB w A 2 [x,y]):AC 285 #[.slice A 2 c] w λe w'=>e=.returned (AaQ x y)/\Ae w w':=by
 skip;go_enter func285,ntmps285;go_wp2;go_loopw[8](λi wr=>∃j:Nat,i=j/\j<=2/\Ae w wr/\(0<j->x=0)/\(1<j->y=0))(λi _=>2-(intOf i).toNat);case atStart=>grind
 case round=>
  obtain⟨j,rfl,ad,u,O,T⟩:=hrel;have U:=zk O;have aa:=zk T;by_cases ab:j<2;obtain⟨ae,z,rfl,V,af,_⟩:=(H.ext u).at_ ab;have E:=zk V.out;have ag:(j:Int)<2:=Ad;have ah:(0:Int)<=(j:Int):=Ad;clear O T V;by_cases Z:z=0;subst Z;go_wp2;go_roundw;case rel=> refine⟨j+1,by go_num,Ad,u,λ_=>?_,λaj=>?_⟩;by_cases e:j=0;subst e;have:=E.out;simp_all;exact U Ad;have e:j=1:=Ad;subst e;have:=E.out;simp_all
  grind[intOf];have ak:=zn Z;have al:(z==0)=false:=Ad;skip;go_wp2;go_ret;refine⟨?_,u⟩;unfold AaQ;by_cases e:j=0;subst e;have J:x=z:=by have:=E.out;simp_all
  rw[zq (by rw[J];simp_all),J];rfl;have ac:j=1:=Ad;subst ac;have J:y=z:=by have:=E.out;grind
  rw[zo (by rw[U Ad];simp),J];rfl;have e:j=2:=Ad;subst e;clear O T;go_wp2;go_ret;refine⟨?_,u⟩;unfold AaQ;rw[zo (by rw[U Ad];simp),aa Ad];rfl
def JB(a b:Ba):Int:=AaQ (Lib.compareInt a.st b.st) (Lib.compareInt a.aq b.aq)
def TL(x y W):Calls prog 286 #[.int .i64 x,.int .i64 y] W λe w'=>e=.returned (.int .i64 (Lib.compareInt x y))/\Ae W w':=(cmp_Compare_int x y W).mono λ_ _ h=>⟨h.1,h.2▸Ae.refl W⟩
def Ai1(x y:Int)(v:Aw)(W:Aj):Prop:=∃B d,v=.slice B 2 d/\AB W B 2 [x,y]
def WP(x y):-1<=Lib.compareInt x y/\Lib.compareInt x y<=1:=by unfold Lib.compareInt;(repeat' split)<;>omega
def Abm(a b w):AC 201 #[AdK a,AdK b] w λe w'=>e=.returned (JB a b)/\Ae w w':=by obtain⟨E,a2,a3,a4⟩:=a;obtain⟨H,J,T,U⟩:=b;unfold AdK;have O:Ae w ((w.alloc (TH ⟨E,a2,a3,a4⟩)).alloc (TH ⟨H,J,T,U⟩)):=((Ae.refl _).alloc _).alloc _;have Z:=(Aq.new w 126 #[E,a2,a3,a4]).alloc (TH ⟨H,J,T,U⟩);have hb:=Aq.new (w.alloc (TH ⟨E,a2,a3,a4⟩)) 126 #[H,J,T,U];rw[z3]at hb;unfold TH at O Z hb;generalize an:(w.alloc (.cells #[E,a2,a3,a4] 126)).alloc (.cells #[H,J,T,U] 126)=aa at *;have ae:=λW(u:Ae aa W)=>u.cell (Z.cell 0);have af:=λW(u:Ae aa W)=>u.cell (Z.cell 1);have ag:=λW(u:Ae aa W)=>u.cell (hb.cell 0);have ah:=λW(u:Ae aa W)=>u.cell (hb.cell 1);have aj:=O;clear Z hb O;go_enter func201,ntmps201;go_wp2;refine Ct [(15,Ai1 (Lib.compareInt E H) (Lib.compareInt a2 J)),(16,λv _=>v=(JB ⟨E,a2,a3,a4⟩ ⟨H,J,T,U⟩))] (n:=12) AJ rfl rfl (.cons (λ_ _ _⟨B,d,ab,ac⟩O=>⟨B,d,ab,ac.ext O⟩) (.cons (λ_ _ _ h _=>h) .nil)) ?_;simp only[List.take_succ_cons,List.take_zero];(repeat apply Ep rfl rfl (λW u=>Am) Am);apply KT rfl (λW u=>TL E H W) rfl (λW u=>by go_simp) Am;(repeat apply Ep rfl rfl (λW u=>Am) Am);apply KT rfl (λW u=>TL a2 J W) rfl (λW u=>by go_simp) Am;(repeat apply Ep rfl rfl (λW u=>Am) Am);refine Di 15 _ (by rfl) rfl rfl (by rfl) (λW σ u V=>?_) Am ?_;simp only[AQ];refine .inl ⟨_,W.alloc (.cells #[(Lib.compareInt E H),(Lib.compareInt a2 J)] 3),by go_simp,by grind,some ⟨W.heap.size,0,none⟩,2,rfl,Ka #[(Lib.compareInt E H),(Lib.compareInt a2 J)] 3 _ 2 rfl rfl Ax ?_ W _ rfl⟩;intro x O;have ab:=WP E H;have ac:=WP a2 J;simp at O;omega;refine Di 16 _ (by rfl) rfl rfl (by rfl) (λW σ u V=>?_) Am ?_;obtain⟨B,d,ab,ac⟩:=V 15 _ rfl AJ;simp only[AQ,ab];exact .inr ⟨_,_,by go_simp,(Agj B d _ _ W ac).mono λe w'⟨ak,al⟩=>⟨_,ak,al,rfl⟩⟩;refine AN λW σ am V=>?_;have ad:=V 16 _ rfl;simp only[AQ,ad];clear V ad ae af ag ah;go_wp2;go_ret;exact⟨rfl,aj.trans am⟩
def YD(p r w):AC 201 #[.agg #[p.st,p.aq,p.ax,p.aT],.agg #[r.st,r.aq,r.ax,r.aT]] w λe w'=>e=.returned (JB p r)/\Ae w w':=Abm p r w
def Bi(W:Aj)(A:AD)(n:Nat)(zc:List Ba):Prop:=BA W A n 4 (zc.flatMap Kl)
def Bi.ext{W W' A n zc}(h:Bi W A n zc)(u:Ae W W'):Bi W' A n zc:=BA.ext h u
def Bi.len{W A n zc}(h:Bi W A n zc):zc.length=n:=by have:=h.1;rw[BZ MR]at this;omega
def Bi.at_{W A n k zc}(h:Bi W A n zc)(V:k<n):∃E r,A=some E/\zc[k]? =some r/\W.cell? (E.add (k*4))=some (.int .i64 r.st)/\W.cell? ⟨(E.add (k*4)).block,(E.add (k*4)).off+1,none⟩=some (.int .i64 r.aq)/\W.cell? ⟨(E.add (k*4)).block,(E.add (k*4)).off+2,none⟩=some (.int .i64 r.ax)/\W.cell? ⟨(E.add (k*4)).block,(E.add (k*4)).off+3,none⟩=some (.int .i64 r.aT):=by
 obtain⟨E,e,T⟩:=h.2.2 (by omega);have Z:=h.len;have O:zc[k]? =some zc[k]:=zr Ad;have cell:∀j u,(Kl zc[k])[j]? =some u->W.cell? (E.add (k*4+j))=some u:=λj u H=>T _ u (by
  have U:j<4:=by have:=(zl.1 H).1;rw[MR]at this;omega
  rw[D2 MR O U];exact H)
 have J:∀j,j≠0->E.add (k*4+j)=⟨(E.add (k*4)).block,(E.add (k*4)).off+j,none⟩:=λj H=>by rw[<-abe];generalize E.add (k*4)=b;unfold Addr.add;rw[zo H]
 refine⟨E,zc[k],e,O,cell 0 _ rfl,?_,?_,?_⟩;rw[<-J 1 Ax];exact cell 1 _ rfl;rw[<-J 2 Ax];exact cell 2 _ rfl;rw[<-J 3 Ax];exact cell 3 _ rfl
def P8(S K:Int)(zc:List Ba)(i:Nat):Prop:=∀r,zc[i]? =some r->(CX r.st S=true/\CX r.ax S=true)/\CX r.aq K=true/\CX r.aT 1000001=true/\∀p,0<i->zc[i-1]? =some p->JB p r<0
def Aaw(P:Prop)(w:Aj)(e:Bz)(w':Aj):Prop:=∃u,e=.returned (.int .i64 u)/\(u=0↔P)/\Ae w w'
def Agd(S K zj:Int)(A:AD)(n c i:Nat)(zc:List Ba)(w:Aj)(h:Bi w A n zc)(hi:i<n)(aO:n<=1000000000):AC 131 #[.agg #[S,K,zj,.slice A n c],i] w (Aaw (P8 S K zc i) w):=by
 obtain⟨af,r,rfl,an,ao,aq,au,av⟩:=h.at_ hi;have J:=zk an;have H:=h;have O:Ae w (w.alloc (.cells #[S,K,zj,.slice (some af) n c] 24)):=(Ae.refl _).alloc _;have hb:=Aq.new w 24 #[S,K,zj,.slice (some af) n c];generalize aP:w.alloc (.cells #[S,K,zj,.slice (some af) n c] 24)=ad at *;have aF:=hb.cell 0;have aG:=hb.cell 1;have aH:=hb.cell 3;have aQ:=O.cell ao;have aR:=O.cell aq;have aS:=O.cell au;have aT:=O.cell av;have V:Ae ad (ad.alloc (.cells #[r.st,r.aq,r.ax,r.aT] 126)):=(Ae.refl _).alloc _;have Z:=Aq.new ad 126 #[r.st,r.aq,r.ax,r.aT];generalize aU:ad.alloc (.cells #[r.st,r.aq,r.ax,r.aT] 126)=wc at *;have f0:=λW(u:Ae wc W)=>(V.trans u).cell aF;have f1:=λW(u:Ae wc W)=>(V.trans u).cell aG;have f3:=λW(u:Ae wc W)=>(V.trans u).cell aH;have ag:=λW(u:Ae wc W)=>u.cell (Z.cell 0);have ah:=λW(u:Ae wc W)=>u.cell (Z.cell 1);have aj:=λW(u:Ae wc W)=>u.cell (Z.cell 2);have ak:=λW(u:Ae wc W)=>u.cell (Z.cell 3);have aV:=f0 wc (Ae.refl _);have aW:=f1 wc (Ae.refl _);have aX:=f3 wc (Ae.refl _);have aY:=ag wc (Ae.refl _);have aZ:=ah wc (Ae.refl _);have a1:=aj wc (Ae.refl _);have a5:=ak wc (Ae.refl _);have E:=O.trans V;have a6:(i:Int)<(n:Int):=Ad;have a7:(0:Int)<=(i:Int):=Ad;clear h an O hb V Z ao aq au av;cases T:CX r.st S with
 |false=>
  go_enter func131,ntmps131;go_wp2_with fail
  refine(Ef r.st S wc).mono ?_;rintro e U⟨rfl,rfl⟩;rw[T];go_wp2;go_ret;exact⟨30,rfl,⟨λh=>(by cases h),λh=>by have:=(h r J).1.1;rw[T]at this;cases this⟩,E⟩
 |true=>
  cases aa:CX r.ax S with
  |false=>
   go_enter func131,ntmps131;go_wp2_with fail
   refine(Ef r.st S wc).mono ?_;rintro e U⟨rfl,rfl⟩;rw[T];go_wp2_with fail
   refine(Ef r.ax S wc).mono ?_;rintro e U⟨rfl,rfl⟩;rw[aa];go_wp2;go_ret;exact⟨30,rfl,⟨λh=>(by cases h),λh=>by have:=(h r J).1.2;rw[aa]at this;cases this⟩,E⟩
  |true=>
   go_enter func131,ntmps131;go_wp2_with fail
   refine(Ef r.st S wc).mono ?_;rintro e U⟨rfl,rfl⟩;rw[T];go_wp2_with fail
   refine(Ef r.ax S wc).mono ?_;rintro e U⟨rfl,rfl⟩;rw[aa];go_wp2_with fail
   refine(Ef r.aq K wc).mono ?_;rintro e U⟨rfl,rfl⟩;cases al:CX r.aq K with
   |false=> go_wp2;go_ret;exact⟨31,rfl,⟨λh=>(by cases h),λh=>by have:=(h r J).2.1;rw[al]at this;cases this⟩,E⟩
   |true=>
    go_wp2_with fail
    refine(Ef r.aT 1000001 wc).mono ?_;rintro e U⟨rfl,rfl⟩;cases am:CX r.aT 1000001 with
    |false=> go_wp2;go_ret;exact⟨7,rfl,⟨λh=>(by cases h),λh=>by have:=(h r J).2.2.1;rw[am]at this;cases this⟩,E⟩
    |true=>
     by_cases aw:i=0;focus subst aw
     rotate_left;focus
      obtain⟨a8,p,aI,ax,ay,az,aA,aB⟩:=H.at_ (k:=i-1) Ad;cases aI;have a9:IntKind.i64.wrap ((i:Int)-1)=((i-1:Nat):Int):=by rw[z5 _ Ad];omega
      have ba:decide (0<i)=true:=zt Ad;have aJ:=λW(u:Ae wc W)=>(E.trans u).cell ay;have aK:=λW(u:Ae wc W)=>(E.trans u).cell az;have aL:=λW(u:Ae wc W)=>(E.trans u).cell aA;have aM:=λW(u:Ae wc W)=>(E.trans u).cell aB;have bc:((i-1:Nat):Int)<(n:Int):=Ad;have bd:(0:Int)<=((i-1:Nat):Int):=Ad;have aC:=zk ax;clear ay az aA aB ax
     all_goals go_wp2;refine AL AJ ?_;(repeat first|apply Bg rfl (λW u=>Am) Am|apply AS rfl Am)
     . (apply Bu (λW u=>YD p r W) rfl (λW u=>by go_simp) Am);(repeat first|apply Bg rfl (λW u=>Am) Am|apply AS rfl Am);refine AN λW ae=>?_;clear f0 f1 f3 ag ah aj ak aJ aK aL aM;by_cases aD:JB p r<0
       . have ab:decide (0<=JB p r)=false:=zn Ad;rw[ab];clear ab;go_wp2;go_ret;exact⟨0,rfl,⟨λ_ aN ac=>(by rw[J.out]at ac;cases ac;exact⟨⟨T,aa⟩,al,am,λbe _ aE=>(by rw[aC.out]at aE;cases aE;exact aD)⟩),λ_=>rfl⟩,E.trans ae⟩
       . have ab:decide (0<=JB p r)=true:=zt Ad;rw[ab];clear ab;go_wp2;go_ret;exact⟨32,rfl,⟨λh=>(by cases h),λh=>absurd ((h r J).2.2.2 p (by have:=aw;omega) aC) (by have:=aD;omega)⟩,E.trans ae⟩
     refine AN λW ae=>?_;clear f0 f1 f3 ag ah aj ak;go_wp2;go_ret;exact⟨0,rfl,⟨λ_ aN ac=>(by rw[J.out]at ac;cases ac;exact⟨⟨T,aa⟩,al,am,λp h=>Ad⟩),λ_=>rfl⟩,E.trans ae⟩
def H7(S K zj:Int)(zc:List Ba):Prop:=(1<=S/\S<=32)/\(1<=K/\K<=64)/\(0<=zj/\zj<S)/\∀i,i<zc.length->P8 S K zc i
def Wv(P:Prop)(w:World)(e:Ending)(w':World):Prop:=∃at_ u,e=.returned (.tuple #[.int .i64 at_,.int .i64 u])/\(u=0↔P)/\Ae w w'
def OM{S z top}(E:-9223372036854775808<=S/\S<=9223372036854775807)(u:IntKind.i64.wrap (S-1)=z)(H:top<=1000):CX z top=true↔1<=S/\S<=top:=by
 unfold CX;rw[z4,z8,z8];by_cases h:S=-9223372036854775808;subst h;have:z=9223372036854775807:=by rw[<-u];decide
 omega;grind[IntWalk.i64_in]
def Fq(S K zj A n c zc w)(H:Bi w A n zc)(aC:n<=1000000000)(ae:-9223372036854775808<=S/\S<=9223372036854775807)(af:-9223372036854775808<=K/\K<=9223372036854775807):AC 57 #[.agg #[.int .i64 S,.int .i64 K,.int .i64 zj,.slice A n c]] w (Wv (H7 S K zj zc) w):=by
 have ag:=H.len;have ah:Ae w (w.alloc (.cells #[S,K,zj,.slice A n c] 24)):=(Ae.refl _).alloc _;have hb:=Aq.new w 24 #[S,K,zj,.slice A n c];generalize aN:w.alloc (.cells #[S,K,zj,.slice A n c] 24)=O at *;have Z:=hb.cell 0;have aa:=hb.cell 1;have ab:=hb.cell 2;have aj:=hb.cell 3;have ak:=zk ag;have E:=ah;have T:=hb;obtain⟨al,aD⟩:∃z,IntKind.i64.wrap (S-1)=z:=⟨_,rfl⟩;obtain⟨am,aE⟩:∃z,IntKind.i64.wrap (K-1)=z:=⟨_,rfl⟩;have an:=OM ae aD (top:=32) Ad;have ao:=OM af aE (top:=64) Ad;have aq:=zk an;have au:=zk ao;clear ag ah hb an ao ae af;go_enter func57,ntmps57;go_wp2_with fail
 refine(Ef al 32 O).mono ?_;rintro e av⟨rfl,rfl⟩;cases ac:CX al 32 with
 |false=> go_wp2;go_ret2;exact⟨-1,2,rfl,⟨λh=>(by cases h),λh=>by have:=aq.2 h.1;rw[ac]at this;cases this⟩,E⟩
 |true=>
  go_wp2_with fail
  refine(Ef am 64 O).mono ?_;rintro e av⟨rfl,rfl⟩;cases ad:CX am 64 with
  |false=> go_wp2;go_ret2;exact⟨-1,2,rfl,⟨λh=>(by cases h),λh=>by have:=au.2 h.2.1;rw[ad]at this;cases this⟩,E⟩
  |true=>
   go_wp2_with fail
   refine(Ef zj S O).mono ?_;rintro e av⟨rfl,rfl⟩;cases U:CX zj S with
   |false=>
    go_wp2;go_ret2;refine⟨-1,2,rfl,⟨λh=>(by cases h),λh=>?_⟩,E⟩;have:=h.2.2.1;have aw:CX zj S=true:=by unfold CX;simp[this]
    rw[U]at aw;cases aw
   |true=>
    have aF:(0<=zj/\zj<S):=by unfold CX at U;simpa using U
    have aG:=aq.1 ac;have aH:=au.1 ad;clear ac ad U Z aa ab;go_wp2;go_loopw[29](λi wr=>∃j:Nat,i=j/\j<=n/\Ae O wr/\∀k,k<j->P8 S K zc k)(λi _=>n-(intOf i).toNat);case atStart=>exact⟨0,rfl,zx _,Ae.refl _,λk aI=>Ad⟩
    case round=>
     obtain⟨j,rfl,aO,u,ax⟩:=hrel;have Z:=u.cell (T.cell 0);have aa:=u.cell (T.cell 1);have ab:=u.cell (T.cell 2);have aj:=u.cell (T.cell 3);by_cases aJ:j<n;have aK:=Agd S K zj A n c j zc wr (H.ext (E.trans u)) aJ aC;have aP:(j:Int)<(n:Int):=Ad;have aQ:(0:Int)<=(j:Int):=Ad;skip;go_wp2_with fail
     refine aK.mono ?_;rintro e w2⟨V,rfl,ay,az⟩;have aA:=zk ay;have aB:=u.trans az;clear ay az Z aa ab aj;by_cases J:V=0;subst J;have aL:=aA.1 rfl;go_wp2;go_roundw;case rel=>exact⟨j+1,by go_num,Ad,aB,λk aI=>by by_cases e:k=j;rw[e];exact aL;exact ax k Ad⟩
     case measure=>simp[intOf];omega
     have aR:decide (V=0)=false:=zn J;have aS:(V==0)=false:=by simpa using J
     skip;go_wp2;go_ret2;exact⟨_,V,rfl,⟨λh=>absurd h J,λh=>absurd (aA.2 (h.2.2.2 j (by have:=ak.out;omega))) J⟩,E.trans aB⟩;have aM:j=n:=Ad;subst aM;skip;go_wp2;go_ret2;exact⟨_,0,rfl,⟨λ_=>⟨aG,aH,aF,λi hi=>ax i (by have:=ak.out;omega)⟩,λ_=>rfl⟩,E.trans u⟩
def AbK(r:Ba)(s k:Int)(V gk:Nat)(w:World)(Z:w.cell? ⟨V,0,none⟩=some (.int .i64 s))(aa:w.cell? ⟨gk,0,none⟩=some (.int .i64 k)):Calls prog 101 #[.agg #[.int .i64 r.st,.int .i64 r.aq,.int .i64 r.ax,.int .i64 r.aT],.pointer (some ⟨V,0,none⟩),.pointer (some ⟨gk,0,none⟩)] w λe w'=>e=.returned (.bool (r.st==s&&r.aq==k))/\Ae w w':=by
 obtain⟨u,E,J,O⟩:=r;have H:Ae w (w.alloc (.cells #[.int .i64 u,E,J,O] 126)):=(Ae.refl _).alloc _;have hb:=Aq.new w 126 #[u,E,J,O];generalize ad:w.alloc (.cells #[u,E,J,O] 126)=ae at *;have af:=hb.cell 0;have ag:=hb.cell 1;have ah:=hb.cell 2;have aj:=hb.cell 3;have ak:=H.cell Z;have al:=H.cell aa;have T:=H;clear Z aa hb H;by_cases U:u=s
 . by_cases ab:E=k
   . subst U ab;go_enter func101,ntmps101;go_wp2;go_ret;exact⟨AG,T⟩
   . subst U;have ac:=zk ab;go_enter func101,ntmps101;go_wp2;go_ret;exact⟨by simp_all,T⟩
 have ac:=zk U;go_enter func101,ntmps101;go_wp2;go_ret;exact⟨by simp_all,T⟩
def IS(s k:Int)(r:Ba):Bool:=r.st==s&&r.aq==k
def Ag6(A n c zc s k O gk w)(H:Bi w A n zc)(ab:w.cell? ⟨O,0,none⟩=some (.int .i64 s))(ac:w.cell? ⟨gk,0,none⟩=some (.int .i64 k))(ax:n<=1000000000):
 Calls prog 102 #[.slice A n c,.func (.func 101) #[] #[.pointer (some ⟨O,0,none⟩),.pointer (some ⟨gk,0,none⟩)]] w
  λe w'=>(∃z:Int,e=.returned (.int .i64 z)/\((z<0/\zc.find? (IS s k)=none)\/∃(j:Nat)(r:Ba),z=j/\zc[j]? =some r/\zc.find? (IS s k)=some r))/\Ae w w':=by
 have ad:=H.len
 have ah:=zk ab
 have aj:=zk ac
 have ak:=zk ad
 clear ab ac ad
 go_enter func102,ntmps102
 go_wp2
 go_loopw[8](λi wr=>∃j:Nat,j<=n/\i=.int .i64 (j:Int)/\(∀y∈zc.take j,IS s k y=false)/\Ae w wr)(λi _=>n-(intOf i).toNat)
 case atStart=>exact⟨0,zx _,rfl,by simp,Ae.refl _⟩
 case round=>
  obtain⟨j,ay,rfl,T,E⟩:=hrel
  have U:=zk T
  by_cases al:j<n
  obtain⟨az,r,rfl,ae,am,an,ao,aq⟩:=(H.ext E).at_ al
  have au:=AbK r s k O gk wr (E.cell ah) (E.cell aj)
  have V:=zk ae
  have aA:(j:Int)<(n:Int):=by omega
  have aB:(0:Int)<=(j:Int):=by omega
  clear T ae
  go_wp2_with fail
  refine au.mono ?_
  rintro e w2⟨rfl,af⟩
  have ag:=E.trans af
  clear af am an ao aq
  cases J:(r.st==s&&r.aq==k)with
  |true=>
   have Z:=zk J
   clear J
   go_wp2
   go_ret
   refine⟨⟨(j:Int),rfl,.inr ⟨j,r,rfl,V,?_⟩⟩,ag⟩
   rw[abf]
   have aa:=(zl.1 V)
   refine⟨Z,j,aa.1,aa.2,λi hi=>?_⟩
   have av:i<zc.length:=ac3 hi aa.1
   have:=U zc[i] (zm (i:=i) (by rw[xa hi,zr av]))
   grind
  |false=>
   have Z:=zk J
   clear J
   go_wp2
   go_roundw
   case rel=>
    refine⟨j+1,Ad,by go_num,λy u=>?_,ag⟩
    rw[AM V]at u
    rcases zz.1 u with u|u
    exact U y u
    rw[zy.1 u];exact Z
   case measure=>simp[intOf];omega
  have aw:j=n:=Ad
  subst aw
  clear T
  go_wp2
  go_ret
  refine⟨⟨-1,rfl,.inl ⟨Ad,?_⟩⟩,E⟩
  have:=U.out
  rw[<-ak.out,x0]at this
  rw[y6]
  simp_all
def IB(zc:List Ba)(s k:Int):Int×Int×Bool:=match DT zc s k with|some (a,b)=>(a,b,true)|none=>(0,0,false)
def UM{zc s k}(h:zc.find? (IS s k)=none):IB zc s k=(0,0,false):=by unfold IB DT;have:zc.find? (λr=>r.st==s&&r.aq==k)=none:=h;rw[this];rfl
def UV{zc s k r}(h:zc.find? (IS s k)=some r):IB zc s k=(r.ax,r.aT,true):=by unfold IB DT;have:zc.find? (λr=>r.st==s&&r.aq==k)=some r:=h;rw[this];rfl
def Ke(zc:List Ba)(s k:Int)(w:Aj)(e:Bz)(w':Aj):Prop:=e=.returned (.tuple #[(IB zc s k).1,(IB zc s k).2.1,.bool (IB zc s k).2.2])/\Ae w w'
def Pb(S K zj s k A n c zc w)(h:Bi w A n zc)(ah:n<=1000000000):AC 38 #[.agg #[.int .i64 S,.int .i64 K,.int .i64 zj,.slice A n c],.int .i64 s,.int .i64 k] w (Ke zc s k w):=by
 have J:Ae w (((w.alloc (.cells #[.int .i64 S,.int .i64 K,.int .i64 zj,.slice A n c] 24)).alloc (.cells #[s] 3)).alloc (.cells #[k] 3)):=(((Ae.refl _).alloc _).alloc _).alloc _;have hb:=((Aq.new w 24 #[S,K,zj,.slice A n c]).alloc (.cells #[s] 3)).alloc (.cells #[k] 3);have T:=(Aq.new (w.alloc (.cells #[S,K,zj,.slice A n c] 24)) 3 #[s]).alloc (.cells #[k] 3);have U:=Aq.new ((w.alloc (.cells #[S,K,zj,.slice A n c] 24)).alloc (.cells #[s] 3)) 3 #[k];rw[z3]at T;rw[z3,z3]at U;generalize ax:((w.alloc (.cells #[S,K,zj,.slice A n c] 24)).alloc (.cells #[s] 3)).alloc (.cells #[k] 3)=ac at *;have aj:=hb.cell 3;have f3:=λW(u:Ae ac W)=>u.cell (hb.cell 3);have ak:=Ag6 A n c zc s k (w.heap.size+1) (w.heap.size+1+1) ac (h.ext J) (T.cell 0) (U.cell 0) ah;have H:=h.ext J;have al:=zk h.len;have ad:=J;clear h hb T U J;go_enter func38,ntmps38;go_wp2_with fail
 refine ak.mono ?_;rintro e V⟨⟨z,rfl,Z⟩,O⟩;rcases Z with⟨Z,E⟩|⟨j,r,rfl,aa,E⟩;have ab:=zk E;have ay:=zt Z;clear E f3;go_wp2;go_ret3;rw[Ke,UM ab];exact⟨rfl,ad.trans O⟩;have ab:=zk E;have am:j<n:=by have:=(zl.1 aa).1;have:=al.out;omega
 obtain⟨az,aA,rfl,ae,an,ao,af,ag⟩:=(H.ext O).at_ am;rw[aa]at ae;cases ae;have aq:=λW(u:Ae V W)=>u.cell af;have au:=λW(u:Ae V W)=>u.cell ag;have av:=λW(u:Ae V W)=>f3 W (O.trans u);have aB:(j:Int)<(n:Int):=Ad;have aC:(0:Int)<=(j:Int):=Ad;clear E f3 aa an ao af ag aj;go_wp2;refine AL AJ ?_;(repeat first|apply Bg rfl (λW u=>Am) Am|apply AS rfl Am);refine AN λW aw=>?_;clear aq au av;go_wp2;go_ret3;rw[Ke,UV ab];exact⟨rfl,ad.trans (O.trans aw)⟩
def EL(n S:Nat)(w)(u:n<=4)(E:1<=S/\S<=32):AC 61 #[.agg #[n,S]] w λe w'=>e=.returned ()/\Ae w w':=by go_enter func61,ntmps61;go_wp2;go_ret;exact⟨rfl,by grind⟩
def Le{a b}(u:a<=32)(hb:b<=32):a*b<=1024:=z7 (ym u hb) Ax
def Cj(n S:Nat)(k:Int):Int×Int×Int:=if k=1 then(0,n,n)else if k=2 then((n:Int)*n,1,n)else((n:Int)*n+n,S,(n:Int)+1)
def RE(n S:Nat)(k w)(ac:n<=4):Calls prog 75 #[.agg #[.int .i64 (n:Int),.int .i64 (S:Int)],.int .i64 k] w λe w'=>e=.returned (.tuple #[.int .i64 (Cj n S k).1,.int .i64 (Cj n S k).2.1,.int .i64 (Cj n S k).2.2])/\Ae w w':=by
 have U:Ae w (w.alloc (.cells #[.int .i64 (n:Int),.int .i64 (S:Int)] 67)):=(Ae.refl _).alloc _;have hb:=Aq.new w 67 #[.int .i64 (n:Int),.int .i64 (S:Int)];generalize ad:w.alloc (.cells #[.int .i64 (n:Int),.int .i64 (S:Int)] 67)=T at *;have f0:=λ(W:World)(u:Ae T W)=>u.cell (hb.cell 0);have f1:=λ(W:World)(u:Ae T W)=>u.cell (hb.cell 1);have ae:=Le (a:=n) (b:=n) (by omega) (by omega);have V:(n:Int)*(n:Int)<=1024/\0<=(n:Int)*(n:Int):=by rw[<-aam];omega
 have Z:IntKind.i64.wrap ((n:Int)*(n:Int))=(n:Int)*(n:Int):=z5 _ (by omega);have w2:IntKind.i64.wrap ((n:Int)*(n:Int)+(n:Int))=(n:Int)*(n:Int)+(n:Int):=z5 _ (by omega);have aa:IntKind.i64.wrap ((n:Int)+1)=(n:Int)+1:=z5 _ (by omega);have J:=U;by_cases E:k=1
 . subst E;go_enter func75,ntmps75;go_wp2;refine AL (by kernel_rfl) ?_;(repeat first|apply Bg rfl (λW u=>by go_simp;rfl) (by go_simp;rfl)|apply AS rfl (by go_simp;rfl));refine AN λW H=>?_;clear f0 f1;go_wp2;go_ret3;exact⟨rfl,J.trans H⟩
 . by_cases O:k=2;focus subst O;clear E
   rotate_left;focus have af:=zn E;have ag:=zn O;have ab:=zk E;skip
   all_goals go_enter func75,ntmps75;go_wp2;refine AL AJ ?_;(repeat first|apply Bg rfl (λW u=>Am) Am|apply AS rfl Am);refine AN λW H=>?_;clear f0 f1 Z w2 aa V;go_wp2;go_ret3
   refine⟨?_,J.trans H⟩;unfold Cj;rw[zo ab,zo O];rfl;exact⟨rfl,J.trans H⟩
def NL(n S:Nat)(k:Int)(a b:Nat):Int:=(Cj n S k).1+(a:Int)*(Cj n S k).2.1+(b:Int)+1
def Ahy(n S k)(u:n<=4)(E:S<=32):(0<=(Cj n S k).1/\(Cj n S k).1<=2000)/\(0<=(Cj n S k).2.1/\(Cj n S k).2.1<=32)/\0<=(Cj n S k).2.2/\(Cj n S k).2.2<=5:=by have H:=Le (a:=n) (b:=n) Ad Ad;unfold Cj;(repeat' split)<;>refine⟨⟨?_,?_⟩,⟨?_,?_⟩,?_,?_⟩<;>dsimp only<;>omega
def LZ(n S:Nat)(w:Aj)(E:n<=4)(J:1<=S/\S<=32):AC 25 #[.agg #[n,S]] w λe w'=>e=.returned (.int .i64 (BJ n S:Nat))/\Ae w w':=by
 have O:Ae w (w.alloc (.cells #[n,S] 67)):=(Ae.refl _).alloc _;have hb:=Aq.new w 67 #[n,S];generalize ag:w.alloc (.cells #[n,S] 67)=T at *;have U:=hb.cell 0;have V:=hb.cell 1;have Z:(n:Int)*n+n+(S:Int)*((n:Int)+1)=(BJ n S:Nat):=by unfold BJ;push_cast;rw[Int.mul_comm (S:Int)]
 have ah:=Le (a:=n) (b:=n) Ad Ad;have aj:=Le (a:=n+1) (b:=S) Ad Ad;have ak:BJ n S<=3000:=by unfold BJ;omega
 have al:(S:Int)*((n:Int)+1)<=1024/\0<=(S:Int)*((n:Int)+1):=by
  have:(S:Int)*((n:Int)+1)=((n+1)*S:Nat):=by push_cast;rw[Int.mul_comm]
  omega
 have aa:=O;have ab:=zk Z;go_enter func25,ntmps25;go_wp2_with fail
 refine(EL n S T E J).mono ?_;rintro e ac⟨rfl,u⟩;have am:=u.cell U;have H:=u.cell V;go_wp2_with fail
 refine(RE n S 3 ac E).mono ?_;rintro e w2⟨rfl,ad⟩;have H:(Cj n S 3).1=(n:Int)*n+n:=rfl;have ae:(Cj n S 3).2.1=(S:Int):=rfl;have af:(Cj n S 3).2.2=(n:Int)+1:=rfl;rw[H,ae,af];go_wp2;go_ret;exact⟨by rw[<-ab.out];rfl,aa.trans (u.trans ad)⟩
def I5(n S:Nat)(k:Int)(a b:Nat)(w:Aj)(T:n<=4)(ad:1<=S/\S<=32)(an:1<=k/\k<=3)(ae:(a:Int)<(Cj n S k).2.2)(hb:(b:Int)<(Cj n S k).2.1):AC 67 #[.agg #[n,S],.agg #[k,a,b]] w λe w'=>e=.returned (NL n S k a b)/\Ae w w':=by
 have Z:=Ahy n S k T Ad;have aa:=λW=>RE n S k W T;unfold NL;generalize Cj n S k=t at *;obtain⟨f,H,af⟩:=t;dsimp only at ae hb Z aa⊢;have ab:Ae w ((w.alloc (.cells #[n,S] 67)).alloc (.cells #[k,a,b] 144)):=((Ae.refl _).alloc _).alloc _;have J:=(Aq.new w 67 #[n,S]).alloc (.cells #[k,a,b] 144);have u:=Aq.new (w.alloc (.cells #[n,S] 67)) 144 #[k,a,b];rw[z3]at u;generalize ao:(w.alloc (.cells #[n,S] 67)).alloc (.cells #[k,a,b] 144)=ag at *;have ah:=J.cell 0;have aj:=J.cell 1;have d0:=u.cell 0;have d1:=u.cell 1;have d2:=u.cell 2;have aq:decide (k<=0)=false:=zn Ad;have au:decide (3<k)=false:=zn Ad;have av:decide ((a:Int)<0)=false:=zn Ad;have aw:decide (af<=(a:Int))=false:=zn Ad;have ax:decide ((b:Int)<0)=false:=zn Ad;have ay:decide (H<=(b:Int))=false:=zn Ad;obtain⟨m,U,az,aA⟩:∃m:Int,(a:Int)*H=m/\0<=m/\m<=160:=by refine⟨_,rfl,Int.mul_nonneg Ad Ad,?_⟩;have aB:(a:Int)*H<=5*32:=Int.mul_le_mul Ad Ad Ad Ad;omega
 have aC:IntKind.i64.wrap ((a:Int)*H)=m:=by rw[U];exact z5 _ Ad
 have w2:IntKind.i64.wrap (f+m)=f+m:=z5 _ Ad;have aD:IntKind.i64.wrap (f+m+(b:Int))=f+m+(b:Int):=z5 _ Ad;have aE:IntKind.i64.wrap (f+m+(b:Int)+1)=f+m+(b:Int)+1:=z5 _ Ad;have ak:=ab;have ac:=J;have V:=u;have al:=zk U;clear J u ab U;go_enter func67,ntmps67;go_wp2_with fail
 refine(EL n S ag T ad).mono ?_;rintro e am⟨rfl,E⟩;have ah:=E.cell (ac.cell 0);have aj:=E.cell (ac.cell 1);have d0:=E.cell (V.cell 0);have d1:=E.cell (V.cell 1);have d2:=E.cell (V.cell 2);skip;go_wp2_with fail
 refine(aa am).mono ?_;rintro e aF⟨rfl,O⟩;have d0:=O.cell d0;have d1:=O.cell d1;have d2:=O.cell d2;clear Z;go_wp2;go_ret;exact⟨by rw[al.out];rfl,ak.trans (E.trans O)⟩
def JD{n S a b}:NL n S 1 a b=Cx n a b:=by grind[NL,Cx,Cj]
def UY{n S a}:NL n S 2 a 0=Er n a:=by grind[NL,Er,Cj]
def RH{n S a b}:NL n S 3 a b=Dd n S a b:=by grind[NL,Dd,Cj]
