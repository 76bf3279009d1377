import Derived.Test.YtdmempceikifeaaGreatA11b
set_option maxRecDepth 100000
set_option maxHeartbeats 16000000
set_option linter.all false
namespace Go.Proofs.YtdmempceikifeaaGreat
open Go.RowKit Tryz
def Ael(H J O u T U V E Z aa:Int)(w:Aj):AC 96 #[.agg #[H,J,O,u,T],.agg #[U,V,E,Z,aa]] w λe w'=>e=.returned (.bool (Cw ⟨H,J,O,u,T⟩ ⟨U,V,E,Z,aa⟩))/\Ae w w':=by
 unfold Cw;dsimp only;have af:Ae w ((w.alloc (.cells #[H,J,O,u,T] 96)).alloc (.cells #[U,V,E,Z,aa] 96)):=((Ae.refl _).alloc _).alloc _;have ag:=(Aq.new w 96 #[H,J,O,u,T]).alloc (.cells #[U,V,E,Z,aa] 96);have ab:=Aq.new (w.alloc (.cells #[H,J,O,u,T] 96)) 96 #[U,V,E,Z,aa];rw[z3]at ab;generalize ak:(w.alloc (.cells #[H,J,O,u,T] 96)).alloc (.cells #[U,V,E,Z,aa] 96)=al at *;have am:=ag.cell 3;have d2:=ab.cell 2;have ac:=af;clear af ag ab;by_cases ah:0<=u
 . have ad:=zt ah;rw[ad];by_cases aj:u<E
   . have ae:=zt aj;rw[ae];go_enter func96,ntmps96;go_wp2;go_ret;exact⟨rfl,ac⟩
   . have ae:=zn aj;rw[ae];go_enter func96,ntmps96;go_wp2;go_ret;exact⟨rfl,ac⟩
 have ad:=zn ah;rw[ad];go_enter func96,ntmps96;go_wp2;go_ret;exact⟨rfl,ac⟩
def AhU(S K zj:Int)(A:AD)(n c:Nat)(w:Aj):AC 4 #[.agg #[S,K,zj,.slice A n c]] w λe w'=>e=.returned (.bool (decide (n<=300)))/\Ae w w':=by
 have u:decide ((n:Int)<=300)=decide (n<=300):=by by_cases h:n<=300<;>simp[h]<;>omega
 go_enter func4,ntmps4;go_wp2;go_ret;exact⟨by first|rfl|simp[u],by grind⟩
def WD(S K zj s k:Int)(A:AD)(n c:Nat)(zc:List Ba)(w:Aj)(h:Bi w A n zc)(az:n<=1000000000):AC 94 #[.agg #[S,K,zj,.slice A n c],s,k] w (Ke zc s k w):=by
 have Z:Ae w (w.alloc (.cells #[S,K,zj,.slice A n c] 24)):=(Ae.refl _).alloc _;have hb:=Aq.new w 24 #[S,K,zj,.slice A n c];generalize aA:w.alloc (.cells #[S,K,zj,.slice A n c] 24)=aa at *;have ah:=hb.cell 3;have H:=h.ext Z;have aj:=zk h.len;have af:=Z;clear h Z hb;go_enter func94,ntmps94;go_wp2;go_loop[9](λi=>∃j:Nat,i=j/\j<=n/\∀y∈zc.take j,IS s k y=false)(λi=>n-(intOf i).toNat);case atStart=>exact⟨0,rfl,zx _,AG⟩
 case round=>
  obtain⟨j,rfl,aB,ab⟩:=hrel;have T:=zk ab;by_cases ak:j<n;obtain⟨aC,r,rfl,ac,aD,aE,al,am⟩:=H.at_ ak;have an:=zk ac;have ag:=zk (AM ac);have aF:(j:Int)<(n:Int):=Ad;have aG:(0:Int)<=(j:Int):=Ad;clear ab ac;by_cases J:r.st=s;have U:(r.st==s)=true:=by simpa using J
  by_cases V:r.aq=k;have ad:(r.aq==k)=true:=by simpa using V
  have O:Hid (IS s k r=true):=zk (by unfold IS;rw[U,ad];rfl);clear J V;go_wp2;have ao:=λW(E:Ae aa W)=>E.cell ah;have aq:=λW(E:Ae aa W)=>E.cell al;have au:=λW(E:Ae aa W)=>E.cell am;refine AL AJ ?_;(repeat first|apply Bg rfl (λW E=>Am) Am|apply AS rfl Am);refine AN λW av=>?_;clear ao aq au;go_wp2;go_ret3;have aw:zc.find? (IS s k)=some r:=by rw[abf];have ae:=zl.1 an;refine⟨O,j,ae.1,ae.2,λi hi=>?_⟩;have ax:i<zc.length:=ac3 hi ae.1;have:=T zc[i] (zm (i:=i) (by rw[xa hi,zr ax]));simpa using this
  refine⟨?_,af.trans av⟩;rw[UV aw];rfl;have ad:(r.aq==k)=false:=by simpa using V
  have O:Hid (IS s k r=false):=zk (by unfold IS;rw[U,ad];rfl);clear J V;go_wp2;go_round;case rel=> refine⟨j+1,by go_num,Ad,λy u=>?_⟩;rw[ag.out]at u;rcases zz.1 u with u|u;exact T y u;rw[zy.1 u];exact O
  case measure=>simp[intOf];omega
  have U:(r.st==s)=false:=by simpa using J
  have O:Hid (IS s k r=false):=zk (by unfold IS;rw[U];rfl);clear J;go_wp2;go_round;case rel=> refine⟨j+1,by go_num,Ad,λy u=>?_⟩;rw[ag.out]at u;rcases zz.1 u with u|u;exact T y u;rw[zy.1 u];exact O
  case measure=>simp[intOf];omega
  obtain rfl:n=j:=Ad;clear ab;go_wp2;go_ret3;refine⟨?_,af⟩;have ay:zc.find? (IS s k)=none:=by have:=T.out;rw[z1 (by have:=aj.out;omega)]at this;rw[y6];intro y u;rw[this y u];simp
  rw[UM ay];rfl
def AdO{S K:Int}{zc:List Ba}{j:Nat}{r:Ba}(h:P8 S K zc j)(V:zc[j]? =some r):(0<=r.st/\r.st<S)/\(0<=r.ax/\r.ax<S)/\(0<=r.aq/\r.aq<K)/\(0<=r.aT/\r.aT<=1000000)/\∀p,0<j->zc[j-1]? =some p->p.st<r.st\/(p.st=r.st/\p.aq<r.aq):=by
 obtain⟨⟨E,H⟩,J,T,Z⟩:=h r V;unfold CX at E H J T;simp only[z4,z8]at E H J T;refine⟨E,H,J,Ad,λp aa ab=>?_⟩;have u:=Z p aa ab;unfold JB AaQ at u;have U:∀x y:Int,Lib.compareInt x y<0->x<y:=λx y h=>by unfold Lib.compareInt at h;(repeat' split at h)<;>omega
 have ac:∀x y:Int,Lib.compareInt x y=0->x=y:=λx y h=>by unfold Lib.compareInt at h;(repeat' split at h)<;>omega
 by_cases O:Lib.compareInt p.st r.st=0;rw[zo (by simpa using O)]at u;exact .inr ⟨ac _ _ O,U _ _ u⟩;rw[zq O]at u;exact .inl (U _ _ u)
def Abo(S K zj:Int)(A:AD)(n c:Nat)(zc:List Ba)(w:Aj)(h:Bi w A n zc)(aY:n<=1000000000)(aD:H7 S K zj zc):AC 169 #[.agg #[S,K,zj,.slice A n c]] w λe w'=>e=.returned (.tuple #[n,()])/\Ae w w':=by
 have ab:Ae w (w.alloc (.cells #[S,K,zj,.slice A n c] 24)):=(Ae.refl _).alloc _;have hb:=Aq.new w 24 #[S,K,zj,.slice A n c];generalize aZ:w.alloc (.cells #[S,K,zj,.slice A n c] 24)=aE at *;have aF:=hb.cell 0;have aG:=hb.cell 1;have aH:=hb.cell 2;have ag:=hb.cell 3;obtain⟨aI,aJ,aK,aL⟩:=aD;have ah:decide (S<1)=false:=zn Ad;have aj:decide (32<S)=false:=zn Ad;have ak:decide (K<1)=false:=zn Ad;have al:decide (64<K)=false:=zn Ad;have am:decide (zj<0)=false:=zn Ad;have an:decide (S<=zj)=false:=zn Ad;have H:=h.ext ab;have aM:=zk h.len;have aN:=ab;have Z:=hb;clear h ab hb aI aJ aK;go_enter func169,ntmps169;go_wp2;clear aF aG aH ag ah aj ak al am an;go_loopw[4](λi wr=>∃j:Nat,i=j/\j<=n/\Ae aE wr)(λi _=>n-(intOf i).toNat);case atStart=>exact⟨0,rfl,zx _,Ae.refl _⟩
 case round=>
  obtain⟨j,rfl,a1,aa⟩:=hrel;have ag:=aa.cell (Z.cell 3);by_cases aO:j<n;obtain⟨a5,r,rfl,ao,aP,aQ,aR,aS⟩:=(H.ext aa).at_ aO;obtain⟨E,J,T,rs⟩:=r;obtain⟨aq,au,av,aw,ax⟩:=AdO (aL j (by have:=aM.out;omega)) ao;dsimp only at aP aQ aR aS aq au av aw ax;have ah:decide (E<0)=false:=zn Ad;have aj:decide (S<=E)=false:=zn Ad;have ak:decide (T<0)=false:=zn Ad;have al:decide (S<=T)=false:=zn Ad;have am:decide (J<0)=false:=zn Ad;have an:decide (K<=J)=false:=zn Ad;have a6:decide (rs<0)=false:=zn Ad;have a7:decide (1000000<rs)=false:=zn Ad;have a8:(j:Int)<(n:Int):=Ad;have a9:(0:Int)<=(j:Int):=Ad;have ay:Ae wr (wr.alloc (.cells #[E,J,T,rs] 126)):=(Ae.refl wr).alloc _;have U:=Aq.new wr 126 #[E,J,T,rs];generalize az:wr.alloc (.cells #[E,J,T,rs] 126)=V at *;have d0:=U.cell 0;have d1:=U.cell 1;have d2:=U.cell 2;have d3:=U.cell 3;have O:=aa.trans ay;have ba:=O.cell (Z.cell 0);have bc:=O.cell (Z.cell 1);have aT:=O.cell (Z.cell 3);have aA:=λW(u:Ae V W)=>u.cell d0;have aB:=λW(u:Ae V W)=>u.cell d1;have aC:=λW(u:Ae V W)=>u.cell aT;clear ao aq au av aw ay U;by_cases t0:j=0;have t1:decide (0<j)=false:=zn Ad;clear t0;go_wp2;clear az;refine AL AJ ?_;(repeat first|apply Bg rfl (λW u=>Am) Am|apply AS rfl Am);refine AN λW u=>?_;have ac:=O.trans u;clear u aA aB aC;go_wp2;go_roundw;case rel=>exact⟨j+1,by go_num,Ad,ac⟩
  case measure=>simp[intOf];omega
  . obtain⟨bd,p,aU,ad,u0,u1,u2,u3⟩:=(H.ext O).at_ (k:=j-1) Ad;cases aU;obtain⟨ae,aV,be,bf⟩:=p;have af:=ax _ Ad ad;dsimp only at u0 u1 u2 u3 af;have bh:IntKind.i64.wrap ((j:Int)-1)=((j-1:Nat):Int):=by rw[z5 _ Ad];omega
    have t1:decide (0<j)=true:=zt Ad;have bi:((j-1:Nat):Int)<(n:Int):=Ad;have bj:(0:Int)<=((j-1:Nat):Int):=Ad;have aW:=λW(u:Ae V W)=>u.cell u0;have aX:=λW(u:Ae V W)=>u.cell u1;have t2:decide (E<ae)=false:=zn Ad;by_cases t3:ae=E;focus subst t3;have t4:decide (J<=aV)=false:=zn Ad;clear ad u0 u1 u2 u3 af t0
    rotate_left;focus
     have t4:(ae==E)=false:=by simpa using t3
     clear ad u0 u1 u2 u3 af t0 t3
    all_goals
     go_wp2;clear az;refine AL AJ ?_;(repeat first|apply Bg rfl (λW u=>Am) Am|apply AS rfl Am);refine AN λW u=>?_;have ac:=O.trans u;clear u aA aB aC aW aX;go_wp2;go_roundw;case rel=>exact⟨j+1,by go_num,Ad,ac⟩
     case measure=>simp[intOf];omega
  obtain rfl:n=j:=Ad;skip;go_wp2;go_ret2;exact⟨rfl,aN.trans aa⟩
def Kj(p:Nat×Int):List Aw:=[p.1,p.2]
def O6(p:Nat×Int):(Kj p).length=2:=rfl
def Zy(p:Nat×Int):∀v∈Kj p,v.oneCell'=true:=by intro v u;simp[Kj]at u;rcases u with rfl|rfl<;>rfl
def KI(w:Aj)(A:AD)(m:Nat)(ps:List (Nat×Int)):Prop:=BA w A m 2 (ps.flatMap Kj)
def KI.ext{w w':Aj}{A:AD}{n:Nat}{l:List (Nat×Int)}(h:KI w A n l)(u:Ae w w'):KI w' A n l:=BA.ext h u
def KI.len{w:Aj}{A:AD}{n:Nat}{l:List (Nat×Int)}(h:KI w A n l):l.length=n:=by have:=h.1;rw[BZ O6]at this;omega
def KI.at_{w:World}{A:Option Addr}{n k:Nat}{ps:List (Nat×Int)}(h:KI w A n ps)(Z:k<n):∃E i r,A=some E/\ps[k]? =some (i,r)/\w.cell? (E.add (k*2))=some (.int .i64 (i:Nat))/\w.cell? ⟨(E.add (k*2)).block,(E.add (k*2)).off+1,none⟩=some (.int .i64 r):=by
 obtain⟨E,e,T⟩:=h.2.2 Ad;have aa:=h.len;have H:ps[k]? =some ps[k]:=zr Ad;generalize ps[k]=x at H;obtain⟨i,r⟩:=x;have J:∀j u,(Kj (i,r))[j]? =some u->w.cell? (E.add (k*2+j))=some u:=λj u O=>by
  refine T _ u ?_;have U:j<2:=by have:=(zl.1 O).1;rwa[O6]at this
  rw[D2 O6 H U];exact O
 have V:E.add (k*2+1)=⟨(E.add (k*2)).block,(E.add (k*2)).off+1,none⟩:=by rw[<-abe];generalize E.add (k*2)=b;unfold Addr.add;rw[zo Ax]
 exact⟨E,i,r,e,H,J 0 _ rfl,by rw[<-V];exact J 1 _ rfl⟩
def LS(zc:List Ba)(s k r:Int):Int×Int:=match DT zc s k with
 |some (u,rs)=>if rs=r then(u,0)else(0,40)
 |none=>(0,40)
def Agc(S K zj s k r:Int)(A:AD)(n c:Nat)(zc:List Ba)(w:Aj)(h:Bi w A n zc)(Z:n<=1000000000)(aa:0<=s/\s<S):AC 170 #[.agg #[S,K,zj,.slice A n c],s,k,r] w λe w'=>e=.returned (.tuple #[(LS zc s k r).1,(LS zc s k r).2])/\Ae w w':=by
 have O:Ae w (w.alloc (.cells #[S,K,zj,.slice A n c] 24)):=(Ae.refl _).alloc _;have hb:=Aq.new w 24 #[S,K,zj,.slice A n c];generalize ab:w.alloc (.cells #[S,K,zj,.slice A n c] 24)=ac at *;have ad:=hb.cell 0;have ae:=hb.cell 1;have af:=hb.cell 2;have ag:=hb.cell 3;have d1:decide (s<0)=false:=zn Ad;have d2:decide (S<=s)=false:=zn Ad;have ah:=WD S K zj s k A n c zc ac (h.ext O) Z;have aj:=O;clear h O hb aa;go_enter func170,ntmps170;go_wp2_with fail
 refine ah.mono ?_;rintro e ak⟨rfl,U⟩;have T:=aj.trans U;clear U ab ad ae af ag;cases u:DT zc s k with
 |none=>
  have E:IB zc s k=(0,0,false):=by unfold IB;rw[u]
  have H:Hid (LS zc s k r=(0,40)):=zk (by unfold LS;rw[u]);rw[E];clear u E;go_wp2;go_ret2;exact⟨by rw[H.out];rfl,T⟩
 |some q=>
  obtain⟨V,rs⟩:=q;have E:IB zc s k=(V,rs,true):=by unfold IB;rw[u]
  rw[E];by_cases J:rs=r;subst J;have H:Hid (LS zc s k rs=(V,0)):=zk (by unfold LS;rw[u];simp);clear u E;go_wp2;go_ret2;exact⟨by rw[H.out];rfl,T⟩;have al:(rs !=r)=true:=by simpa using J
  have H:Hid (LS zc s k r=(0,40)):=zk (by unfold LS;rw[u];simp[J]);clear u E J;go_wp2;go_ret2;exact⟨by rw[H.out];rfl,T⟩
def Acx{zc:List Ba}{s k r u:Int}(h:LS zc s k r=(u,0)):DT zc s k=some (u,r):=by
 unfold LS at h;cases E:DT zc s k with
 |none=>rw[E]at h;simp at h
 |some q=> obtain⟨a,b⟩:=q;rw[E]at h;by_cases hb:b=r;simp[hb]at h;rw[h,hb];simp[hb]at h
def AgZ{zc:List Ba}{s k r a b:Int}(h:LS zc s k r=(a,b))(hb:b≠0)(u:Int):DT zc s k≠some (u,r):=λe=>by unfold LS at h;rw[e]at h;simp at h;exact hb h.2.symm
def O7{zc:List Ba}{l:List AZ}{s:Int}{p:List (Nat×Int)}{j:Nat}(h:B0 zc l [] s (p.take j)=none):B0 zc l [] s p=none:=by
 cases e:B0 zc l [] s p with
 |none=>rfl
 |some s'=> rw[<-xt j p]at e;obtain⟨E,u⟩:=Q0 e;rw[h]at u;cases u
def Agz(o:Option Int)(w:Aj)(e:Bz)(w':Aj):Prop:=∃a b u:Int,e=.returned (.tuple #[a,b,u])/\((∀s,o=some s->a=s/\u=0)/\(o=none->u≠0))/\Ae w w'
def RC(S:Nat)(K zj:Int)(A:AD)(n c:Nat)(zc:List Ba)(B:AD)(m d:Nat)(l:List AZ)(J:Int)(D:AD)(k e:Nat)(p:List (Nat×Int))(w:Aj)(h:Dt w S K zj A n zc B m l)(aG:KI w D k p)(bR:k<=1000)(aR:0<=J/\J<S)(bd:∀q∈p,q.1<m):AC 93 #[.agg #[S,K,zj,.slice A n c],.slice B m d,J,.slice D k e] w (Agz (B0 zc l [] J p) w):=by
 have an:Ae w (w.alloc (.cells #[S,K,zj,.slice A n c] 24)):=(Ae.refl _).alloc _;have hb:=Aq.new w 24 #[S,K,zj,.slice A n c];generalize be:w.alloc (.cells #[S,K,zj,.slice A n c] 24)=bf at *;have ao:=hb.cell 0;have aH:=hb.cell 1;have aI:=hb.cell 2;have aJ:=hb.cell 3;have H:=h.ext an;have aS:=aG.ext an;have bh:=zk aG.len;have aq:=an;have aT:=hb;have bS:=h.hm;have bi:=zk h.len;have d1:decide (J<0)=false:=zn Ad;have d2:decide ((S:Int)<=J)=false:=zn Ad;clear h aG an hb;go_enter func93,ntmps93;go_wp2_with fail
 refine(Abo S K zj A n c zc bf H.cb H.ca H.b6).mono ?_;rintro e bj⟨rfl,V⟩;have au:=aT.ext V;have ao:=V.cell (aT.cell 0);clear be aH aI aJ;go_wp2;clear ao d1 d2;go_loopw[2,13](λaU i wr=>∃(j:Nat)(s:Int),j<=k/\aU=s/\i=j/\B0 zc l [] J (p.take j)=some s/\Ae bj wr)(λ_ i _=>k-(intOf i).toNat);case atStart=>exact⟨0,J,zx _,rfl,rfl,by simp[B0],Ae.refl _⟩
 case round=>
  obtain⟨j,s,bT,rfl,rfl,hrun,E⟩:=hrel;have av:=zk hrun;by_cases bk:j<k
  . obtain⟨bU,i,r,rfl,aw,bn,br⟩:=(aS.ext (V.trans E)).at_ bk;have hi:=bd _ (zm aw);dsimp only at hi;have bV:=zk aw;have aV:=zk (AM aw);have bW:(j:Int)<(k:Int):=Ad;have bX:(0:Int)<=(j:Int):=Ad;have bt:decide ((i:Int)<0)=false:=zn Ad;have bu:decide (m<=i)=false:=zn Ad;have aW:Ae wr (wr.alloc (.cells #[i,r] 98)):=(Ae.refl wr).alloc _;have aK:=Aq.new wr 98 #[i,r];generalize bw:wr.alloc (.cells #[i,r] 98)=bx at *;have bz:=aK.cell 0;have O:=zk (E.trans aW);have ax:=zk aK;clear hrun aw aW aK;go_wp2;clear bw bn br bz bt bu;generalize wr=bY at *;go_loopw[8,9,10,15](λ_ _ _ v wr=>∃y:Nat,y<=j/\v=y/\(∀q∈p.take y,q.1≠i)/\Ae bx wr)(λ_ _ _ v _=>j-(intOf v).toNat);case atStart=>exact⟨0,zx _,rfl,AG,Ae.refl _⟩
    case round=>
     obtain⟨y,bZ,rfl,aL,E⟩:=hrel;have aX:=zk aL;have af:=zk E;by_cases b0:y<j
     . obtain⟨b1,ay,bA,bB,aM,u0,u1⟩:=(aS.ext (V.trans (O.trans E))).at_ (k:=y) Ad;cases bB;have bC:=zk aM;have bD:=zk (AM aM);have b2:(y:Int)<(j:Int):=Ad;have b3:(y:Int)<(k:Int):=Ad;have b4:(0:Int)<=(y:Int):=Ad;have bE:=λW(u:Ae wr W)=>u.cell u0;have aa:=λW(u:Ae wr W)=>u.cell (E.cell (ax.cell 0));clear aL aM u0 u1;go_wp2;refine AL AJ ?_;(repeat first|apply Bg rfl (λW u=>Am) Am|apply AS rfl Am);refine AN λW u=>?_;have ab:=zk (af.trans u);clear u bE aa;by_cases ag:ay=i
       . have az:((ay:Int)==(i:Int))=true:=by simp[ag]
         have aN:=zk ag;clear ag;go_wp2;go_ret3;have bF:B0 zc l [] J (p.take (j+1))=none:=by rw[aV.out,IA,av.out];dsimp only;rw[zo];rintro⟨_,bG⟩;refine bG ?_;rw[List.nil_append,zw];exact⟨(ay,bA),zm (i:=y) (by rw[xa Ad];exact bC),aN⟩
         exact⟨_,_,21,rfl,⟨λs U=>(by rw[O7 bF]at U;cases U),λ_=>Ax⟩,aq.trans (V.trans (O.trans ab))⟩
       . have az:((ay:Int)==(i:Int))=false:=Ca;have aN:=zk ag;clear ag;go_wp2;go_roundw;case rel=>
          refine⟨y+1,Ad,by go_num,λq T=>?_,ab⟩;rw[bD.out]at T;rcases zz.1 T with T|T
          . exact aX q T
          . rw[zy.1 T];exact aN
         case measure=>simp[intOf];omega
     . obtain rfl:j=y:=Ad;obtain⟨b5,b6,aA,aU,aB,rs,bH,aY,bI,aZ,bJ,a1,a5⟩:=(H.bG.ext (V.trans (O.trans E))).at_ hi;subst bH;have a6:=EO aY;obtain⟨a7,a8⟩:=NB (S:=S) H.ax aR.1 aR.2 av;have aC:=zk (λW(u:Ae wr W)=>Agc S K zj s aA r A n c zc W (H.cb.ext (V.trans (O.trans (E.trans u)))) H.ca ⟨a7,a8⟩);have Z:Hid (B0 zc l [] J (p.take (j+1))=match DT zc s aA with
        |some (bK,bL)=>if bL=r/\(aB=-1\/rs=r)then some bK else none
        |none=>none):=zk (by rw[aV.out,IA,av.out];dsimp only;rw[zq ⟨by have:=bi.out;omega,λaD=>by rw[List.nil_append,zw]at aD;obtain⟨q,T,e⟩:=aD;exact aX q T e⟩,a6];rfl)
       have b7:(i:Int)<(m:Int):=Ad;have b8:(0:Int)<=(i:Int):=Ad;have ao:=λW(u:Ae wr W)=>u.cell (E.cell (O.cell (au.cell 0)));have aH:=λW(u:Ae wr W)=>u.cell (E.cell (O.cell (au.cell 1)));have aI:=λW(u:Ae wr W)=>u.cell (E.cell (O.cell (au.cell 2)));have aJ:=λW(u:Ae wr W)=>u.cell (E.cell (O.cell (au.cell 3)));have aa:=λW(u:Ae wr W)=>u.cell (E.cell (ax.cell 0));have ad:=λW(u:Ae wr W)=>u.cell (E.cell (ax.cell 1));have bM:=λW(u:Ae wr W)=>u.cell aZ;obtain⟨aE,aO,T⟩:∃a b,LS zc s aA r=(a,b):=⟨_,_,rfl⟩;have aP:=zk T;rw[T]at aC;dsimp only at aC;have bN:=zk a1;have bO:=zk a5;have a9:=zk (ax.ext E);clear aL aY a6 bI aZ bJ a1 a5 T a7 a8;go_wp2;refine AL AJ ?_;(repeat first|apply Bg rfl (λW u=>Am) Am|apply AS rfl Am);apply Bu (λW u=>aC W u) rfl (λW u=>by go_simp) Am;(repeat first|apply Bg rfl (λW u=>Am) Am|apply AS rfl Am);refine AN λW u=>?_;have ab:=zk u;have ah:=u.cell bN;have aj:=u.cell bO;have aa:=u.cell (a9.cell 0);have ad:=u.cell (a9.cell 1);clear u ao aH aI aJ bM;by_cases ak:aO=0
       . subst ak;have ba:=Acx aP;rw[ba]at Z;dsimp only at Z;clear ba aP aC;have ah:=λW'(u:Ae W W')=>u.cell ah;have aj:=λW'(u:Ae W W')=>u.cell aj;have aa:=λW'(u:Ae W W')=>u.cell aa;have ad:=λW'(u:Ae W W')=>u.cell ad;by_cases ae:aB=-1
         . have az:(aB !=-1)=false:=by simpa using ae
           have ac:Hid (B0 zc l [] J (p.take (j+1))=some aE):=zk (by rw[Z.out,zq ⟨rfl,.inl ae⟩]);clear ae Z;go_wp2;refine AL AJ ?_;(repeat first|apply Bg rfl (λW u=>Am) Am|apply AS rfl Am);refine AN λW' al=>?_;have aF:=zk al;clear al ah aj aa ad;go_wp2;go_roundw;case rel=>exact⟨j+1,aE,Ad,rfl,by go_num,ac,O.trans (af.trans (ab.trans aF))⟩
           case measure=>simp[intOf];omega
         . have az:(aB !=-1)=true:=by simpa using ae
           by_cases am:rs=r;focus
            have bP:(rs !=r)=false:=by simpa using am
            have ac:Hid (B0 zc l [] J (p.take (j+1))=some aE):=zk (by rw[Z.out,zq ⟨rfl,.inr am⟩])
           rotate_left;focus
            have bP:(rs !=r)=true:=by simpa using am
            have ac:Hid (B0 zc l [] J p=none):=zk (O7 (j:=j+1) (by rw[Z.out,zo];rintro⟨_,h|h⟩;exact ae h;exact am h))
           all_goals clear ae am Z;go_wp2;refine AL AJ ?_;(repeat first|apply Bg rfl (λW u=>Am) Am|apply AS rfl Am);refine AN λW' al=>?_;have aF:=zk al;clear al ah aj aa ad;go_wp2
           go_ret3;exact⟨_,_,40,rfl,⟨λs U=>(by rw[ac.out]at U;cases U),λ_=>Ax⟩,aq.trans (V.trans (O.trans (af.trans (ab.trans aF))))⟩;go_roundw;case rel=>exact⟨j+1,aE,Ad,rfl,by go_num,ac,O.trans (af.trans (ab.trans aF))⟩
           case measure=>simp[intOf];omega
       have az:(aO !=0)=true:=by simpa using ak
       have bQ:=zk ak;have ac:Hid (B0 zc l [] J p=none):=zk (O7 (j:=j+1) (by
        rw[Z.out];cases aD:DT zc s aA with
        |none=>rfl
        |some q=> obtain⟨a,b⟩:=q;dsimp only;rw[zo];rintro⟨e,_⟩;subst e;exact AgZ aP ak a aD))
       clear ak Z ah aj aa ad;go_wp2;go_ret3;exact⟨_,_,aO,rfl,⟨λs U=>(by rw[ac.out]at U;cases U),λ_=>bQ⟩,aq.trans (V.trans (O.trans (af.trans ab)))⟩
  obtain rfl:k=j:=Ad;clear hrun;go_wp2;go_ret3;have aQ:=av.out;rw[z1 (by have:=bh.out;omega)]at aQ;exact⟨s,_,0,rfl,⟨λs' U=>(by rw[aQ]at U;cases U;exact⟨rfl,rfl⟩),λbc=>(by rw[aQ]at bc;cases bc)⟩,aq.trans (V.trans E)⟩
def AiZ:LF 46 98 (.agg #[(),()]) 2 16:=⟨underlying46,AJ,rfl,Ax,Ax⟩
def En(w:Aj)(b:Nat)(v:Aw)(ps:List (Nat×Int)):Prop:=AP w b 98 2 v ps.length (ps.flatMap Kj)
def En.cT{w:Aj}{b:Nat}{v:Aw}{ps:List (Nat×Int)}(h:En w b v ps)(E:ps.length<=1000):∃A c,v=.slice A ps.length c/\KI w A ps.length ps:=by obtain⟨A,c,e,u,_⟩:=AP.aC h Ad;exact⟨A,c,e,u⟩
def Wy(w:Aj){zf:Array Oper}{rest:List Oper}{o:Oper}{a:Act}{Q:Exit->Act->Aj->Prop}(V:o.guard=none)(s x:Operand) (Z:o.op=.call {callee:=.builtin .append,args:=#[s,x],argTypes:=#[46,46]}) (za:Nat)(v:Aw)(M:List (Nat×Int))(p:Nat×Int)(aa:a.eval s=v)(J:En w za v M)(A:AD)(c:Nat)(ab:a.eval x=.slice A 1 c)(ac:BA w A 1 2 (Kj p))(hb:M.length<=1000000000)(ad:za<=w) (h:∀u E H w',En w' za (.slice u E H) (M++[p])->w.grownBy w' v.ownBlock->(∀k,v.ownBlock=some k->za<=k)->(∀(g:Nat)(t:TypeId)(O:Ck),Aq w g t O->98≠t->Aq w' g t O)->wpList prog zf Q rest (a.put o.dst (.slice u E H)) w'):wpList prog zf Q (o::rest) a w:=by refine D6 AiZ w V s x Z za v M.length (M.flatMap Kj) aa J A 1 c (Kj p) ab ac (Zy p) Ad ad λag w' T U _=>?_;obtain⟨u,E,H,rfl⟩:=AP.form T;refine h u E H w' ?_ U (λk e=>(xy J k e).1) (λg t O hb ae=>hb.grown U (λe=>D3 J hb ae e.symm));unfold En;rw[zu,y4];simpa using T
def Wb(zc:List Ba)(s k:Int):(IB zc s k).2.1=II zc s k:=by
 unfold IB II;cases DT zc s k with
 |none=>rfl
 |some q=>rfl
def Aga(o:Option (List (Nat×Int)))(w:Aj)(e:Bz)(w':Aj):Prop:=∃(A:AD)(n c:Nat)(u:Int),e=.returned (.tuple #[.slice A n c,u])/\((∀p,o=some p->En w' w (.slice A n c) p/\u=0)/\(o=none->u≠0))/\Ae w w'
def DN(o:List Nat):An:=o.map λx:Nat=>(x:Int)
def Agf(S:Nat)(K zj:Int)(A:AD)(n c:Nat)(zc:List Ba)(B:AD)(m d:Nat)(l:List AZ)(D:AD)(k e:Nat)(o:List Nat)(w:Aj)(h:Dt w S K zj A n zc B m l)(an:AB w D k (DN o))(cf:k<=100)(bt:∀q∈o,q<m):AC 30 #[.agg #[S,K,zj,.slice A n c],.slice B m d,.slice D k e] w (Aga (GI zc l zj o) w):=by
 have ad:Ae w (w.alloc (.cells #[S,K,zj,.slice A n c] 24)):=(Ae.refl _).alloc _;have hb:=Aq.new w 24 #[S,K,zj,.slice A n c];generalize bu:w.alloc (.cells #[S,K,zj,.slice A n c] 24)=bw at *;have ae:=hb.cell 0;have af:=hb.cell 1;have ag:=hb.cell 2;have ah:=hb.cell 3;have H:=h.ext ad;have bx:=an.ext ad;have bz:Hid (o.length=k):=zk (by have:=an.1;unfold DN at this;rw[z2]at this;exact this);have ao:=ad;have bA:=hb;have cg:=h.hm;have aL:=zk h.len;have aM:(0<=zj/\zj<S):=h.b6.2.2.1;clear h an ad hb;go_enter func30,ntmps30;go_wp2_with fail
 refine(RC S K zj A n c zc B m d l zj none 0 0 [] bw H ⟨AG,Ad,λh=>absurd h Ad⟩ Ad aM AG).mono ?_;rintro e aj⟨a0,ch,ci,rfl,⟨aN,_⟩,O⟩;obtain⟨rfl,rfl⟩:=aN zj (by simp[B0]);have T:=bA.ext O;clear bu aN ae af ag ah;go_wp2;go_loopw[8,9,12](λv aO i wr=>∃(j:Nat)(s:Int)(p:List (Nat×Int)),j<=k/\aO=s/\i=j/\En wr aj v p/\(GI zc l a0 o=Gg zc l a0 p s (o.drop j)/\B0 zc l [] a0 p=some s/\p.length<=j/\∀q∈p,q.1<m)/\Ae aj wr)(λ_ _ i _=>k-(intOf i).toNat);case atStart=>exact⟨0,a0,[],zx _,rfl,rfl,AP.nil _ _ _ _,⟨rfl,by simp[B0],AG,AG⟩,Ae.refl _⟩
 case round=>
  obtain⟨j,s,p,cj,rfl,rfl,aq,⟨au,hrun,av,bB⟩,J⟩:=hrel;have aw:=zk au;have cm:=zk hrun;have cn:=av;by_cases bC:j<k
  . obtain⟨co,bD,rfl,aP,aQ,_⟩:=(bx.ext (O.trans J)).at_ bC;obtain⟨x,ax,rfl⟩:∃x:Nat,o[j]? =some x/\bD=(x:Int):=by
     have U:=aP.out;unfold DN at U;rw[yd]at U;cases aR:o[j]? with
     |none=>rw[aR]at U;cases U
     |some x=>rw[aR]at U;simp at U;exact⟨x,rfl,U.symm⟩
    have aS:=bt x (zm ax);obtain⟨cp,cq,ac,aO,cr,rs,rfl,aT,bE,aU,bF,bG,bH⟩:=(H.bG.ext (O.trans J)).at_ aS;have ay:=EO aT;have aV:Hid (o.drop j=x::o.drop (j+1)):=zk (by have aW:=(zl.1 ax);rw[y8 aW.1,aW.2]);obtain⟨r,ak⟩:∃r,II zc s ac=r:=⟨_,rfl⟩;have bI:Hid (∀s',B0 zc l [] a0 (p++[(x,r)])=some s'->GI zc l a0 o=Gg zc l a0 (p++[(x,r)]) s' (o.drop (j+1))):=zk (λs' az=>by rw[aw.out,aV.out,Gg,zq (by have:=aL.out;omega),ay];dsimp only;rw[ak,az]);have bJ:Hid (B0 zc l [] a0 (p++[(x,r)])=none->GI zc l a0 o=none):=zk (λaz=>by rw[aw.out,aV.out,Gg,zq (by have:=aL.out;omega),ay];dsimp only;rw[ak,az]);have aX:=zk (λW(V:Ae wr W)=>WD S K a0 s ac A n c zc W (H.cb.ext (O.trans (J.trans V))) H.ca);have aA:Hid ((IB zc s ac).2.1=r):=zk (by rw[Wb,ak]);have cs:(j:Int)<(k:Int):=Ad;have ct:(0:Int)<=(j:Int):=Ad;have cu:(x:Int)<(m:Int):=Ad;have cv:(0:Int)<=(x:Int):=Ad;have aB:Ae wr (wr.alloc (.cells #[x,()] 98)):=(Ae.refl wr).alloc _;have aY:=Aq.new wr 98 #[x,()];have bK:=zk aY;have Z:=zk aB;have bL:=zk aU;have bM:=zk aQ;have bN:=aB.cell aQ;obtain⟨mt,aC⟩:∃mt,IB zc s ac=mt:=⟨_,rfl⟩;obtain⟨bO,u,bP⟩:=mt;rw[aC]at aA;have bQ:=zk (λW(V:Ae wr W)=>(aX.out W V).mono (λe w'(aZ:Ke zc s ac W e w')=>(show e=.returned (.tuple #[bO,u,bP])/\Ae W w' from⟨by have:=aZ.1;rw[aC]at this;exact this,aZ.2⟩)));obtain rfl:u=r:=aA.out;clear au hrun av aP ax aT ay bE aU bF bG bH ak aB aY aC aX aA;go_wp2;clear bN;generalize wr.alloc (.cells #[x,()] 98)=a1 at *;have ae:=Z.out.cell (J.cell (T.cell 0));have af:=Z.out.cell (J.cell (T.cell 1));have ag:=Z.out.cell (J.cell (T.cell 2));have ah:=Z.out.cell (J.cell (T.cell 3));have a5:=Z.out.cell bM.out;have a6:=Z.out.cell bL.out;have aD:Ae wr a1.drew:=Z.out.drew;go_cut[65](λ_ a7=>Aq a7 wr 98 #[x,u]/\Ae wr a7)
    case first=>
     go_region_law((go_simp;go_at_call 94;(refine(bQ.out _ aD).mono ?_);rintro e W⟨rfl,V⟩;have al:=zk (Aq.ext (w:=a1.drew) bK.out V);have bR:=zk (aD.trans V);have cx:=al.out.cell 0;have cy:=al.out.cell 1;have f1:=al.out.frozen 1;clear ae af ag ah a5 a6 V))
     all_goals
      go_wp2_with fail
      go_meet;exact⟨al.out.ad 1 u,bR.out.setCell (p:=⟨wr,1,none⟩) (zs _) _⟩
    case rest=>
    obtain⟨aE,aF⟩:=hcut;generalize wc=aG at *;clear ae af ag ah a5 a6 aD;have cz:=aE.cell 0;have cA:=aE.cell 1;have a8:=zk aF;have bS:=zk (AP.ext aq aF);have a9:=BA.bz aG #[x,u] 98;have bT:Hid (BA (aG.alloc (.cells #[x,u] 98)) aG 1 2 (Kj (x,u))):=zk a9;clear aE aF a9;go_wp2_with(at_builtin;refine Wy _ rfl (.tmp 68) (.tmp 70) rfl aj _ p (x,u) rfl (AP.alloc bS.out _) _ _ rfl bT.out Ad (by have:=(J.trans a8.out).size;simp;omega) ?_;intro bU cB bV ba bc bd be bW;have bf:=zk bc;have ab:Hid (Ae aj ba):=Ae.grown ((J.trans a8.out).alloc _) bd be;have bX:=ab.out.cell (T.cell 0);have bY:=ab.out.cell (T.cell 1);have bZ:=ab.out.cell (T.cell 2);have b0:=ab.out.cell (T.cell 3);clear bc bd be bW)
    obtain⟨cC,cD,b1,am⟩:=En.cT bf.out Ca;cases b1;have bh:∀q∈p++[(x,u)],q.1<m:=λq E=>by rcases zz.1 E with E|E;exact bB q E;rw[zy.1 E];exact aS
    have bi:=zk bh;have b2:=zk am;clear am bh;refine(RC S K a0 A n c zc _ m d l a0 bU _ bV (p++[(x,u)]) ba (H.ext (O.trans ab.out)) b2.out Ca aM bi.out).mono ?_;rintro e cE⟨b3,cF,bj,rfl,⟨aH,aI⟩,aJ⟩;have bk:=zk (ab.out.trans aJ);have b4:=zk (AP.ext bf.out aJ);clear aJ bX bY bZ b0;cases aa:B0 zc l [] a0 (p++[(x,u)])with
    |none=>
     have aK:=aI aa;have cG:(bj !=0)=true:=by simpa using aK
     have b5:=zk aK;have b6:=zk (bJ.out aa);clear aK aa aH aI;go_wp2;go_ret2;exact⟨none,0,0,bj,rfl,⟨λq E=>(by rw[b6.out]at E;cases E),λ_=>b5.out⟩,ao.trans (O.trans bk.out)⟩
    |some s'=>
     obtain⟨rfl,rfl⟩:=aH s' aa;have b7:=zk (bI _ aa);have b8:=zk aa;clear aa aH aI;go_wp2;go_roundw;case rel=>exact⟨j+1,b3,p++[(x,u)],Ad,rfl,by go_num,by have h:=b4.out;unfold En at h⊢;simpa using h,⟨b7.out,b8.out,Ca,bi.out⟩,bk.out⟩
     case measure=>simp[intOf];omega
  obtain rfl:k=j:=Ad;clear au hrun av;go_wp2;go_ret2;obtain⟨b9,cc,ce,_⟩:=En.cT aq Ad;subst ce;have am:=AP.less aq (ao.trans O).size;have bn:GI zc l a0 o=some p:=by rw[aw.out,abt (by have:=bz.out;omega)];rfl
  exact⟨b9,_,cc,0,rfl,⟨λq E=>(by rw[bn]at E;cases E;exact⟨am,rfl⟩),λbr=>(by rw[bn]at br;cases br)⟩,ao.trans (O.trans J)⟩
def En.eA{w:Aj}{b g i:Nat}{v u:Aw}{ps:List (Nat×Int)}{t:TypeId}{E:Ck}(h:En w b v ps)(H:Aq w g t E)(J:98≠t):En (w.setCell ⟨g,i,none⟩ u) b v ps:=aan h (IQ w g i u) (Or.inr (D3 h H J))
structure AiS(wB:Aj)(S i0:Nat)(K:Int)(A:AD)(n c:Nat)(zc:List Ba)(B:AD)(m d:Nat)(l:List AZ)(go_ gr gl:Nat)(ze:Nat->Nat)(E:AD)(kE cE:Nat):Prop where
 dz:Dt wB S K (i0:Int) A n zc B m l
 dF:Aq wB go_ 24 #[S,K,i0,.slice A n c]
 cr:Aq wB gr 86 #[.slice E kE cE]
 dj:Aq wB gl 25 #[.slice B m d]
 ev:AB wB E kE (Ra ze m)
def Aej(U:Aj)(S ag:Nat)(K:Int)(A:AD)(n c:Nat)(zc:List Ba)(B:AD)(m d:Nat)(l:List AZ)(ah aj ak V za k a:Nat)(ze:Nat->Nat)(E:AD)(al aC:Nat)(v:Aw)(p:List (Nat×Int))(w:Aj) (H:AiS U S ag K A n c zc B m d l ah aj ak ze E al aC)(J:Ae U w)(aD:U<=V)(bc:U<=za)(bd:za<=w)(am:Aq w V 46 #[v])(ac:En w za v p)(be:p.length<=10)(bf:k<=m)(aE:a<m):AC 37 #[k,a,.pointer ah,.pointer aj,.pointer ak,.pointer V] w λe w'=>e=.returned (.tuple #[])/\(∃an,Aq w' V 46 #[an]/\En w' za an (p++[(a,II zc ((ze k:Nat):Int) (opAt l a).aq)]))/\Ae U w'/\za<=w':=by
 obtain⟨bh,bi,bj,rfl⟩:=AP.form ac;have aF:al=m+1:=by have:=H.ev.1;unfold Ra at this;simp at this;omega
 subst aF;obtain⟨bk,x,rfl,ao,u0,_⟩:=(H.ev.ext J).at_ (k:=k) Ad;obtain rfl:x=((ze k:Nat):Int):=by have O:=ao.out;unfold Ra at O;rw[yd,aal Ad]at O;injection O with O;exact O.symm
 obtain⟨bn,br,aa,bt,bu,rs,rfl,aq,aG,au,aH,aI,aJ⟩:=(H.dz.bG.ext J).at_ aE;have av:=EO aq;have bw:=H.dz.hm;obtain⟨mt,ad⟩:∃mt,IB zc ((ze k:Nat):Int) aa=mt:=⟨_,rfl⟩;obtain⟨aK,T,aL⟩:=mt;have aw:T=II zc ((ze k:Nat):Int) aa:=by rw[<-Wb,ad]
 have aM:=λW(u:Ae w W)=>(Pb S K ag ((ze k:Nat):Int) aa A n c zc W (H.dz.cb.ext (J.trans u)) H.dz.ca).mono (λe w'(ax:Ke zc ((ze k:Nat):Int) aa W e w')=>(show e=.returned (.tuple #[aK,T,aL])/\Ae W w' from⟨by have:=ax.1;rw[ad]at this;exact this,ax.2⟩));have aN:=λW(u:Ae w W)=>u.cell (J.cell (H.dF.cell 0));have aO:=λW(u:Ae w W)=>u.cell (J.cell (H.dF.cell 1));have aP:=λW(u:Ae w W)=>u.cell (J.cell (H.dF.cell 2));have aQ:=λW(u:Ae w W)=>u.cell (J.cell (H.dF.cell 3));have aR:=λW(u:Ae w W)=>u.cell (J.cell (H.cr.cell 0));have aS:=λW(u:Ae w W)=>u.cell (J.cell (H.dj.cell 0));have aT:=λW(u:Ae w W)=>u.cell u0;have aU:=λW(u:Ae w W)=>u.cell au;have bx:(k:Int)<(m:Int)+1:=Ad;have bz:(0:Int)<=(k:Int):=Ad;have bA:(a:Int)<(m:Int):=Ad;have a0:(0:Int)<=(a:Int):=Ad;have aV:=zk av;have aW:=zk aw;have aX:=am;have aY:=ac;clear H am ac ao aq aG au aH aI aJ u0 av ad aw;go_enter func37,ntmps37;go_wp2;refine AL AJ ?_;(repeat first|apply Bg rfl (λW u=>Am) Am|apply AS rfl Am);apply Bu (λW u=>aM W u) rfl (λW u=>by go_simp) Am;(repeat first|apply Bg rfl (λW u=>Am) Am|apply AS rfl Am);refine AN λW Z=>?_;have ae:=aX.ext Z;have bB:=ae.cell 0;have f0:=ae.frozen 0;have aZ:=AP.ext aY Z;have ay:=BA.bz W #[a,T] 98;have a1:(BA (W.alloc (.cells #[a,T] 98)) W 1 2 (Kj (a,T))):=ay;clear ay aN aO aP aQ aR aS aT aU;go_wp2_with(at_builtin;refine Wy _ rfl (.tmp 26) (.tmp 30) rfl za _ p (a,T) rfl (AP.alloc aZ _) _ _ rfl a1 Ad (by have:=Z.size;simp;omega) ?_;intro a5 a6 a7 az a8 af aA aB;have a9:Hid (Ae U az):=Ae.grown ((J.trans Z).alloc _) af (λk e=>by have:=aA k e;omega);have ab:=aB _ _ _ (ae.alloc (.cells #[a,T] 98)) Ax;have bC:=ab.cell 0;have f6:=ab.frozen 0;have ba:Hid (za<=az):=zk (by have O:=af.size;have bD:=Z.size;rw[z3]at O;omega);clear af aA aB)
 go_end0;refine⟨rfl,⟨.slice a5 a6 a7,ab.ad 0 _,?_⟩,a9.setCell (p:=V) aD _,by rw[xf];exact ba⟩;rw[aV.out];dsimp only;rw[<-aW.out];exact En.eA a8 ab Ax
def YG(w:Aj):En (w.alloc (.cells #[] 98)) w (.slice w 0 0) []:=⟨AG,Or.inr ⟨w,0,#[],rfl,zs _,aaf w _,zs _,Ax,AG,AG⟩⟩
def VS(zc:List Ba)(l:List AZ)(t:Int->Bool)(σ ze:Nat->Nat)(k:Nat):(Da zc l t σ ze k).length<=k:=by unfold Da;have:=List.length_filterMap_le (IZ zc l t σ ze) (List.range k);rwa[y9]at this
def Zf(S T:Nat)(K:Int)(A:AD)(n c:Nat)(zc:List Ba)(B:AD)(m d:Nat)(l:List AZ)(M:AD)(U aw:Nat)(J:List Bool)(σ ze:Nat->Nat)(w:Aj) (h:Dt w S K (T:Int) A n zc B m l)(aH:Bw w M U J)(aW:J.length=BJ m S)(ae:Ie zc l S T (Gi J) σ ze):AC 9 #[.agg #[S,K,T,.slice A n c],.slice B m d,.slice M U aw] w λe w'=>∃(D:AD)(k c':Nat),e=.returned (.tuple #[.slice D k c',()])/\KI w' D k (Gn zc l (Gi J) σ ze)/\Ae w w':=by
 have ac:Ae w ((w.alloc (.cells #[S,K,T,.slice A n c] 24)).alloc (.cells #[.slice B m d] 25)):=((Ae.refl _).alloc _).alloc _;have hb:=(Aq.new w 24 #[S,K,T,.slice A n c]).alloc (.cells #[.slice B m d] 25);have ax:=Aq.new (w.alloc (.cells #[S,K,T,.slice A n c] 24)) 25 #[.slice B m d];rw[z3]at ax;generalize bz:(w.alloc (.cells #[S,K,T,.slice A n c] 24)).alloc (.cells #[.slice B m d] 25)=bA at *;have aI:=hb.cell 0;have aJ:=hb.cell 1;have aK:=hb.cell 2;have aL:=hb.cell 3;have aM:=ax.cell 0;have aX:=h.len;have H:=h.ext ac;have ay:=aH.ext ac;have bB:=ac;have V:=hb;have aN:=ax;have aa:=zk aX;have af:=zk aW;have az:=h.hm;have aA:=h.bc;have aY:U=BJ m S:=by have:=aH.1;omega
 have bC:=FE az aA.2;have b1:U<=180:=Ad;have aZ:=zk aY;have a1:∀a,a<m->σ a<m:=λa ag=>by have:=ae.lt a Ad;omega
 have a5:∀a b,a<m->b<m->σ a=σ b->a=b:=λa b ag hb=>ae.inj a b Ad Ad;have a6:=zk a5;clear h aH ac hb ax aX aW aY bC a5;go_enter func9,ntmps9;go_wp2_with fail
 refine(Acp S K T A n c zc B m d l bA H).mono ?_;rintro e bD⟨rfl,ab⟩;have aI:=ab.cell (V.cell 0);have aJ:=ab.cell (V.cell 1);have aK:=ab.cell (V.cell 2);have aL:=ab.cell (V.cell 3);have aM:=ab.cell (aN.cell 0);clear bz;go_wp2_with fail
 refine(AdC S T K A n c zc B m d l M U aw J σ ze bD (H.ext ab) (ay.ext ab) af ae).mono ?_;rintro e w2⟨rfl,Z⟩;have Z:=ab.trans Z;have a7:=zk Z;have aI:=Z.cell (V.cell 0);have aJ:=Z.cell (V.cell 1);have aK:=Z.cell (V.cell 2);have aL:=Z.cell (V.cell 3);have aM:=Z.cell (aN.cell 0);clear Z;go_wp2_with fail
 refine(KF S K T A n c zc B m d l w2 (H.ext a7)).mono ?_;rintro e aB⟨rfl,a8⟩;have a9:Ae aB (aB.alloc (.cells #[m,S] 67)):=(Ae.refl _).alloc _;have aC:=Aq.new aB 67 #[m,S];generalize bE:aB.alloc (.cells #[m,S] 67)=bF at *;have aD:=aC.cell 0;have aE:=aC.cell 1;have ba:=a7.trans (a8.trans a9);have aO:=aC;clear a8 a9 aC aI aJ aK aL aM;go_wp2_with fail
 refine(Sc m S M U aw J σ bF az aA (ay.ext ba) af a1 a6 (λa ag k aF=>by have:=ae.place a (by have:=aa.out;omega) k (by have:=aa.out;omega);rwa[aa.out]at this)).mono ?_;rintro e bG⟨D,b2,rfl,bH,al⟩;have bc:=ba.trans al;have aD:=al.cell (aO.cell 0);have aE:=al.cell (aO.cell 1);have bI:=aO.ext al;clear al bE;go_wp2_with fail
 refine(WJ m S M U aw J ze bG az aA (ay.ext bc) af (λk aF=>ae.cF k (by have:=aa.out;omega)) (λk aF b hb=>by have:=ae.state k (by have:=aa.out;omega) b hb;rwa[aa.out]at this)).mono ?_;rintro e ah⟨E,am,an,rfl,bd,aG⟩;have ao:Ae ah (ah.alloc (.cells #[.slice E am an] 86)):=(Ae.refl _).alloc _;have be:=Aq.new ah 86 #[.slice E am an];generalize bJ:ah.alloc (.cells #[.slice E am an] 86)=O at *;have aq:=bc.trans (aG.trans ao);have bK:=bH.ext (aG.trans ao);have bf:=bI.ext (aG.trans ao);have bL:(AiS O S T K A n c zc B m d l w ah (w+1) ze E am an):=⟨H.ext aq,V.ext aq,be,aN.ext aq,bd.ext ao⟩;have bh:=YG O;have bM:Ae O ((O.alloc (.cells #[] 98)).alloc (.cells #[.slice O 0 0] 46)):=((Ae.refl _).alloc _).alloc _;have aP:=Aq.new (O.alloc (.cells #[] 98)) 46 #[.slice O 0 0];rw[z3]at aP;have bN:=AP.alloc bh (.cells #[.slice O 0 0] 46);have bO:=aP;clear bd aG ao be aD aE bh aP;go_wp2;clear bJ;go_loopw[48](λv wr=>∃k:Nat,v=k/\k<=m/\(∃u,Aq wr (O+1) 46 #[u]/\En wr O u (Da zc l (Gi J) σ ze k))/\Ae O wr)(λv _=>m-(intOf v).toNat);case atStart=>exact⟨0,rfl,zx _,⟨_,bO,bN⟩,bM⟩
 case round=>
  obtain⟨k,rfl,aF,⟨u,bi,bj⟩,aj⟩:=hrel;have b3:=VS zc l (Gi J) σ ze k;by_cases aQ:k<m
  . obtain⟨b4,x,rfl,ac,bk,_⟩:=(bK.ext aj).at_ aQ;obtain rfl:x=((Ff m σ k:Nat):Int):=by have ad:=ac.out;rw[Rf σ aQ]at ad;injection ad with ad;exact ad.symm
    have ag:=(FC a1 a6 aQ).1;have aR:Hid (Da zc l (Gi J) σ ze (k+1)=Da zc l (Gi J) σ ze k++if Gi J (Er m (Ff m σ k))then[(Ff m σ k,II zc ((ze k:Nat):Int) (opAt l (Ff m σ k)).aq)]else[]):=zk (by rw[KG];unfold IZ;rw[aa.out];cases Gi J (Er m (Ff m σ k))<;>simp);generalize Ff m σ k=a at *;have aD:=aj.cell (bf.cell 0);have aE:=aj.cell (bf.cell 1);have bn:=AhL m S a wr az aA ag;obtain⟨z,aS⟩:∃z,Er m a=z:=⟨_,rfl⟩;have aT:0<z/\z<=(J.length:Int):=by rw[<-aS,af.out];exact⟨Ge _ _,(Oa (S:=S) ag).2.2⟩
    obtain⟨i,br,bP,bt⟩:=TR aT.1 aT.2;rw[aS]at bn aR;have b5:IntKind.i64.wrap (z-1)=(i:Int):=by rw[z5 _ (by have:=af.out;have:=aZ.out;omega),br]
    have bQ:i<U:=by have:=af.out;have:=aZ.out;omega
    obtain⟨b6,y,rfl,bu,au⟩:=(ay.ext (aq.trans aj)).at_ bQ;obtain rfl:Gi J z=y:=by have ad:=bu.out;rw[bt]at ad;injection ad
    have b7:(i:Int)<(U:Int):=Ad;have b8:(0:Int)<=(i:Int):=Ad;have b9:(k:Int)<(m:Int):=Ad;have cc:(0:Int)<=(k:Int):=Ad;clear ac aS aT br bP bt bu;go_wp2_with fail
    refine bn.mono ?_;rintro e bR⟨rfl,av⟩;have aU:=aj.trans av;have bw:=bi.ext av;have bx:=AP.ext bj av;have au:=av.cell au;clear av aD aE bk;cases ak:Gi J z with
    |false=>
     have aV:Hid (Da zc l (Gi J) σ ze (k+1)=Da zc l (Gi J) σ ze k):=zk (by rw[aR.out,ak];simp);rw[ak]at au;clear ak;go_wp2;go_roundw;case rel=>exact⟨k+1,by go_num,Ad,⟨u,bw,by rw[aV.out];exact bx⟩,aU⟩
     case measure=>simp[intOf];omega
    |true=>
     have aV:Hid (Da zc l (Gi J) σ ze (k+1)=Da zc l (Gi J) σ ze k++[(a,II zc ((ze k:Nat):Int) (opAt l a).aq)]):=zk (by rw[aR.out,ak];simp);rw[ak]at au;clear ak;go_wp2_with fail
     refine(Aej O S T K A n c zc B m d l w ah (w+1) (O+1) O k a ze E am an u _ bR bL aU Ad (zs _) aU.size bw bx Ad aF ag).mono ?_;rintro e ce⟨rfl,⟨bS,bT,bU⟩,bV,_⟩;clear au;go_wp2;go_roundw;case rel=>exact⟨k+1,by go_num,Ad,⟨bS,bT,by rw[aV.out];exact bU⟩,bV⟩
     case measure=>simp[intOf];omega
  . obtain rfl:m=k:=Ad;obtain⟨bW,bX,bY,bZ⟩:=En.cT bj Ad;subst bY;have bk:=bi.cell 0;have b0:Hid (Gn zc l (Gi J) σ ze=Da zc l (Gi J) σ ze m):=zk (by unfold Gn;rw[aa.out]);skip;go_wp2;go_ret2;exact⟨bW,_,bX,rfl,by rw[b0.out];exact bZ,bB.trans (aq.trans aj)⟩
def TM(D:AD)(k e:Nat)(p:List (Nat×Int))(i:Nat)(w:Aj)(Z:KI w D k p)(ag:k<=1000):AC 95 #[.slice D k e,i] w λe w'=>e=.returned (CP p i)/\w=w':=by
 have aa:=zk Z.len;skip;go_enter func95,ntmps95;go_wp2;go_loop[5](λv=>∃j:Nat,j<=k/\v=j/\∀q∈p.take j,(q.1==i)=false)(λv=>k-(intOf v).toNat);case atStart=>exact⟨0,zx _,rfl,AG⟩
 case round=>
  obtain⟨j,ah,rfl,H⟩:=hrel;have J:=zk H;by_cases ab:j<k;obtain⟨aj,x,r,rfl,O,ak,al⟩:=Z.at_ ab;have ac:=zk O;have ad:=zk (AM O);have am:(j:Int)<(k:Int):=Ad;have an:(0:Int)<=(j:Int):=Ad;clear H O;by_cases T:x=i;subst T;have ae:Hid (CP p x=(j:Int)):=zk (by
   have E:=zl.1 ac;have U:p.findIdx? (λq=>q.1==x)=some j:=by rw[yq];refine⟨E.1,by rw[E.2];simp,λy V=>?_⟩;have:=J (p[y]'(ac3 V E.1)) (zm (i:=y) (by rw[xa V,zr (ac3 V E.1)]));simpa using this
   unfold CP;rw[U])
  go_wp2;go_ret;exact⟨by rw[ae.out];rfl,rfl⟩;have ao:((x:Int)==(i:Int))=false:=Ca;have af:Hid ((x==i)=false):=zk (by simpa using T);clear T;go_wp2;go_round;case rel=> refine⟨j+1,Ad,by go_num,λq u=>?_⟩;rw[ad.out]at u;rcases zz.1 u with u|u;exact J q u;rw[zy.1 u];exact af
  case measure=>simp[intOf];omega
  obtain rfl:k=j:=Ad;clear H;go_wp2;go_ret;have U:p.findIdx? (λq=>q.1==i)=none:=by rw[yz];have:=J.out;rw[z1 (by have:=aa.out;omega)]at this;exact this
  refine⟨?_,rfl⟩;unfold CP;rw[U];rfl
def Jg(l:List AZ)(p:List (Nat×Int))(i k:Nat):Bool:=!(Cw (opAt l i) (opAt l k)&&decide (0<=CP p k)&&(decide (CP p i<0)||decide (CP p k<CP p i)))
def Lw(l:List AZ)(p:List (Nat×Int))(i:Nat):Bool:=(decide ((opAt l i).an=-1)||decide (0<=CP p i))&&(List.range l.length).all (Jg l p i)
def TV(l:List AZ)(p:List (Nat×Int)):Ha l p=(List.range l.length).all (Lw l p):=rfl
def Agq{l:List AZ}{p:List (Nat×Int)}(h:∀i,i<l.length->Lw l p i=true):Ha l p=true:=by rw[TV,yn];exactλi hi=>h i (zv.1 hi)
def AgD{l:List AZ}{p:List (Nat×Int)}{i:Nat}(hi:i<l.length)(h:Lw l p i=false):Ha l p=false:=by rw[TV,List.all_eq_false];exact⟨i,zv.2 hi,by rw[h];simp⟩
def Ahp{l:List AZ}{p:List (Nat×Int)}{i:Nat}(u:(opAt l i).an=-1\/0<=CP p i)(h:∀k,k<l.length->Jg l p i k=true):Lw l p i=true:=by unfold Lw;rw[z4,abg,z8,z8,yn];exact⟨u,λk E=>h k (zv.1 E)⟩
def Afw{l:List AZ}{p:List (Nat×Int)}{i:Nat}(u:(opAt l i).an≠-1)(E:CP p i<0):Lw l p i=false:=by unfold Lw;rw[zn u,zn Ad];rfl
def Afv{l:List AZ}{p:List (Nat×Int)}{i k:Nat}(u:k<l.length)(h:Jg l p i k=false):Lw l p i=false:=by unfold Lw;rw[Bool.and_eq_false_iff];right;rw[List.all_eq_false];exact⟨k,zv.2 u,by rw[h];simp⟩
def O0(zc:List Ba)(l:List AZ)(zj:Int)(p:List (Nat×Int)):Bool:=(B0 zc l [] zj p).isSome&&Ha l p
def AhF(S:Nat)(K zj:Int)(A:AD)(n c:Nat)(zc:List Ba)(B:AD)(m d:Nat)(l:List AZ)(D:AD)(k e:Nat)(p:List (Nat×Int))(w:Aj)(h:Dt w S K zj A n zc B m l)(aZ:KI w D k p)(am:k<=1000)(a1:∀q∈p,q.1<m):AC 31 #[.agg #[S,K,zj,.slice A n c],.slice B m d,.slice D k e] w λe w'=>e=.returned (.bool (O0 zc l zj p))/\Ae w w':=by
 have Z:Ae w (w.alloc (.cells #[S,K,zj,.slice A n c] 24)):=(Ae.refl _).alloc _;have hb:=Aq.new w 24 #[S,K,zj,.slice A n c];generalize bw:w.alloc (.cells #[S,K,zj,.slice A n c] 24)=bx at *;have bz:=hb.cell 0;have bA:=hb.cell 1;have bB:=hb.cell 2;have bC:=hb.cell 3;have H:=h.ext Z;have a5:=aZ.ext Z;have ay:=Z;have bD:=zk a1;have bS:=h.hm;have az:=zk h.len;have bE:Hid (0<=zj/\zj<S):=zk h.b6.2.2.1;clear h aZ Z hb a1;go_enter func31,ntmps31;go_wp2_with fail
 refine(RC S K zj A n c zc B m d l zj D k e p bx H a5 am bE bD).mono ?_;rintro e bF⟨a0,ag,bG,rfl,⟨aF,aG⟩,ab⟩;clear bw bz bA bB bC;cases ah:B0 zc l [] zj p with
 |none=>
  have a6:=aG ah;have aa:(bG !=0)=true:=by simpa using a6
  have an:Hid (O0 zc l zj p=false):=zk (by unfold O0;rw[ah];rfl);clear a6 ah aF aG;go_wp2;go_ret;exact⟨by rw[an.out];rfl,ay.trans ab⟩
 |some s'=>
  obtain⟨rfl,rfl⟩:=aF s' ah;have an:Hid (O0 zc l zj p=Ha l p):=zk (by unfold O0;rw[ah];rfl);clear ah aF aG;go_wp2;go_loopw[6,10](λ_ v wr=>∃a:Nat,a<=m/\v=a/\(∀i,i<a->Lw l p i=true)/\Ae bF wr)(λ_ v _=>m-(intOf v).toNat);case atStart=>exact⟨0,zx _,rfl,λi hi=>Ad,Ae.refl _⟩
  case round=>
   obtain⟨a,bT,rfl,aH,ac⟩:=hrel;have a7:=zk aH;by_cases bH:a<m
   . obtain⟨bU,aI,aJ,aK,E,aL,rfl,a8,a9,ba,bc,bd,be⟩:=(H.bG.ext (ab.trans ac)).at_ bH;obtain⟨aj,rfl⟩:∃aj:Aj,aj=wr:=⟨_,rfl⟩;have bf:=zk (EO a8);have bh:=a5.ext (ab.trans ac);have bV:(a:Int)<(m:Int):=Ad;have bW:(0:Int)<=(a:Int):=Ad;have bI:=zk a9;have bJ:=zk ba;have bK:=zk bc;have bL:=zk bd;have bM:=zk be;have aA:=zk (λO ad=>Afw (l:=l) (p:=p) (i:=a) O ad);have bN:=zk (λ(k:Nat)(am:k<l.length)h=>Afv (l:=l) (p:=p) (i:=a) am h);have aB:=zk (λO h=>Ahp (l:=l) (p:=p) (i:=a) O h);have bi:=zk (λh=>AgD (l:=l) (p:=p) (i:=a) (by have:=az.out;omega) h);rw[bf.out]at aA aB;dsimp only at aA aB;obtain⟨x,Z⟩:∃x,CP p a=x:=⟨_,rfl⟩;have bO:=zk Z;have aM:=zk (λW(u:Ae aj W)=>TM D k e p a W (bh.ext u) am);rw[Z]at aM aA aB;clear aH a8 a9 ba bc be Z;go_upto_region 7 with fail
     go_cut[43](λs aN=>s=.bool (decide (E≠-1)&&decide (x<0))/\Ae aj aN)
     case first=>
      by_cases ak:E=-1
      . have aa:(E !=-1)=false:=by simpa using ak
        have aO:Hid ((decide (E≠-1)&&decide (x<0))=false):=zk (by simp[ak]);clear ak;go_wp2;go_meet;exact⟨by rw[aO.out],Ae.refl _⟩
      . have aa:(E !=-1)=true:=by simpa using ak
        have aO:Hid ((decide (E≠-1)&&decide (x<0))=decide (x<0)):=zk (by simp[ak]);clear ak;go_wp2_with fail
        refine(aM aj (Ae.refl _)).mono ?_;rintro e bj⟨rfl,rfl⟩;go_wp2;go_meet;exact⟨by rw[aO.out],Ae.refl _⟩
     case rest=>
      obtain⟨rfl,aP⟩:=hcut;generalize wc=w2 at aP⊢;have aQ:=aP;clear aP bd;by_cases ae:E≠-1/\x<0;have aa:(decide (E≠-1)&&decide (x<0))=true:=by simp[ae.1,ae.2]
      have aC:=zk ae;rw[aa];clear ae aa;go_wp2;go_ret;exact⟨by rw[an.out,bi (aA aC.1 aC.2)];rfl,ay.trans (ab.trans (ac.trans aQ))⟩
      . have aa:(decide (E≠-1)&&decide (x<0))=false:=by rw[Bool.and_eq_false_iff,aah,aah];by_cases h:E=-1;exact .inl (λg=>g h);exact .inr (λg=>ae ⟨h,g⟩)
        have aC:Hid (E=-1\/0<=x):=zk (by by_cases h:E=-1;exact .inl h;exact .inr (by have:¬x<0:=λg=>ae ⟨h,g⟩;omega));rw[aa];clear ae aa;go_wp2;go_loopw[6,11](λ_ v wr=>∃b:Nat,b<=m/\v=b/\(∀y,y<b->Jg l p a y=true)/\Ae w2 wr)(λ_ v _=>m-(intOf v).toNat);case atStart=>exact⟨0,zx _,rfl,λy al=>Ad,Ae.refl _⟩
        case round=>
         obtain⟨b,hb,rfl,aR,bk⟩:=hrel;have bn:=zk aR;have T:=aQ.trans bk;by_cases bP:b<m
         . obtain⟨bX,aS,aT,aU,aV,aW,eq,br,u0,u1,u2,u3,u4⟩:=(H.bG.ext (ab.trans (ac.trans T))).at_ bP;cases eq;have bQ:=zk (EO br);obtain⟨y,al⟩:∃y,CP p b=y:=⟨_,rfl⟩;have bt:=zk (λW(u:Ae aj W)=>TM D k e p b W (bh.ext u) am);rw[al]at bt;have ao:Hid (Jg l p a b=!(Cw ⟨aI,aJ,aK,E,aL⟩ ⟨aS,aT,aU,aV,aW⟩&&decide (0<=y)&&(decide (x<0)||decide (y<x)))):=zk (by unfold Jg;rw[bf.out,bQ.out,al,bO.out]);have bY:(b:Int)<(m:Int):=Ad;have bZ:(0:Int)<=(b:Int):=Ad;clear aR br al;go_wp2_with fail
           refine(aM _ T).mono ?_;rintro e bj⟨rfl,rfl⟩;go_wp2_with fail
           refine(bt _ T).mono ?_;rintro e bj⟨rfl,rfl⟩;go_wp2_with fail
           go_cut[77](λs aN=>s=.bool (!Jg l p a b)/\Ae wr aN)
           case first=>
            have af:=zk (λW=>Ael aI aJ aK E aL aS aT aU aV aW W);have a0:=λW(u:Ae wr W)=>u.cell (T.cell bI);have aq:=λW(u:Ae wr W)=>u.cell (T.cell bJ);have a2:=λW(u:Ae wr W)=>u.cell (T.cell bK);have a3:=λW(u:Ae wr W)=>u.cell (T.cell bL);have a4:=λW(u:Ae wr W)=>u.cell (T.cell bM);have ag:=λW(u:Ae wr W)=>u.cell u0;have au:=λW(u:Ae wr W)=>u.cell u1;have av:=λW(u:Ae wr W)=>u.cell u2;have aw:=λW(u:Ae wr W)=>u.cell u3;have ax:=λW(u:Ae wr W)=>u.cell u4;clear u0 u1 u2 u3 u4;cases J:Cw ⟨aI,aJ,aK,E,aL⟩ ⟨aS,aT,aU,aV,aW⟩with
            |false=> have U:Hid ((!Jg l p a b)=false):=zk (by rw[ao.out,J];rfl);rw[J]at af;clear J;refine AL AJ ?_;(repeat first|apply Bg rfl (λW u=>Am) Am|apply AS rfl Am);apply Bu (λW u=>af W) rfl (λW u=>by go_simp) Am;(repeat first|apply Bg rfl (λW u=>Am) Am|apply AS rfl Am);refine AN λW V=>?_;clear a0 aq a2 a3 a4 ag au av aw ax;go_wp2;go_meet;exact⟨by rw[U.out],V⟩
            |true=>
             rw[J]at af;by_cases O:0<=y
             . have d1:decide (0<=y)=true:=zt O;by_cases ad:x<0
               . have d2:decide (x<0)=true:=zt ad;have U:Hid ((!Jg l p a b)=true):=zk (by rw[ao.out,J,d1,d2];rfl);clear J O ad;refine AL AJ ?_;(repeat first|apply Bg rfl (λW u=>Am) Am|apply AS rfl Am);apply Bu (λW u=>af W) rfl (λW u=>by go_simp) Am;(repeat first|apply Bg rfl (λW u=>Am) Am|apply AS rfl Am);refine AN λW V=>?_;clear a0 aq a2 a3 a4 ag au av aw ax;go_wp2;go_meet;exact⟨by rw[U.out],V⟩
               . have d2:decide (x<0)=false:=zn ad;by_cases aD:y<x
                 . have d3:decide (y<x)=true:=zt aD;have U:Hid ((!Jg l p a b)=true):=zk (by rw[ao.out,J,d1,d2,d3];rfl);clear J O ad aD;refine AL AJ ?_;(repeat first|apply Bg rfl (λW u=>Am) Am|apply AS rfl Am);apply Bu (λW u=>af W) rfl (λW u=>by go_simp) Am;(repeat first|apply Bg rfl (λW u=>Am) Am|apply AS rfl Am);refine AN λW V=>?_;clear a0 aq a2 a3 a4 ag au av aw ax;go_wp2;go_meet;exact⟨by rw[U.out],V⟩
                 . have d3:decide (y<x)=false:=zn aD;have U:Hid ((!Jg l p a b)=false):=zk (by rw[ao.out,J,d1,d2,d3];rfl);clear J O ad aD;refine AL AJ ?_;(repeat first|apply Bg rfl (λW u=>Am) Am|apply AS rfl Am);apply Bu (λW u=>af W) rfl (λW u=>by go_simp) Am;(repeat first|apply Bg rfl (λW u=>Am) Am|apply AS rfl Am);refine AN λW V=>?_;clear a0 aq a2 a3 a4 ag au av aw ax;go_wp2;go_meet;exact⟨by rw[U.out],V⟩
             . have d1:decide (0<=y)=false:=zn O;have U:Hid ((!Jg l p a b)=false):=zk (by rw[ao.out,J,d1];rfl);clear J O;refine AL AJ ?_;(repeat first|apply Bg rfl (λW u=>Am) Am|apply AS rfl Am);apply Bu (λW u=>af W) rfl (λW u=>by go_simp) Am;(repeat first|apply Bg rfl (λW u=>Am) Am|apply AS rfl Am);refine AN λW V=>?_;clear a0 aq a2 a3 a4 ag au av aw ax;go_wp2;go_meet;exact⟨by rw[U.out],V⟩
           case rest=>
            obtain⟨rfl,aX⟩:=hcut;generalize wc=b0 at aX⊢;have bu:=bk.trans aX;clear aX u0 u1 u2 u3 u4;cases aE:Jg l p a b with
            |false=> have aY:=zk aE;clear aE;go_wp2;go_ret;exact⟨by rw[an.out,bi (bN b (by have:=az.out;omega) aY)];rfl,ay.trans (ab.trans (ac.trans (aQ.trans bu)))⟩
            |true=>
             have aY:=zk aE;clear aE;go_wp2;go_roundw;case rel=> refine⟨b+1,Ad,by go_num,λy al=>?_,bu⟩;by_cases h:y=b;rw[h];exact aY;exact bn y Ad
             case measure=>simp[intOf];omega
         obtain rfl:m=b:=Ad;have bR:=zk (aB aC (λy al=>bn y (by have:=az.out;omega)));clear aR;go_wp2;go_roundw;case rel=> refine⟨a+1,Ad,by go_num,λi hi=>?_,ac.trans T⟩;by_cases h:i=a;rw[h];exact bR;exact a7 i Ad
         case measure=>simp[intOf];omega
   obtain rfl:m=a:=Ad;clear aH;go_wp2;go_ret;exact⟨by rw[an.out,Agq (λi hi=>a7 i (by have:=az.out;omega))];rfl,ay.trans (ab.trans ac)⟩
def Fg(L:List (List Nat)):AT:=L.map DN
def UD(a b:List (List Nat)):Fg (a++b)=Fg a++Fg b:=yo
def Ng(n q:Nat):List (List Nat):=(List.range (q+1)).flatMap (DO n)
def RM(n q:Nat):Ng n (q+1)=Ng n q++DO n (q+1):=by unfold Ng;rw[xi (n:=q+1),y4];simp
def MZ(o:List Nat)(y:Nat):List (List Nat):=((List.range y).filter λk=>!o.contains k).map λk=>o++[k]
def Ad6(o:List Nat)(y:Nat):MZ o (y+1)=MZ o y++if o.contains y then[]else[o++[y]]:=by unfold MZ;rw[xi,y5,yo];by_cases h:y∈o<;>simp[h]
def Uz(n:Nat)(last:List (List Nat))(z:Nat):List (List Nat):=(last.take z).flatMap λo=>MZ o n
def Ad8(n:Nat){last:List (List Nat)}{z:Nat}{o:List Nat}(h:last[z]? =some o):Uz n last (z+1)=Uz n last z++MZ o n:=by unfold Uz;rw[AM h,y4];simp
def ZQ:∀n,n<=4->∀q,q<=5->(DO n q).length<=24:=by decide+kernel
def Aii{n q:Nat}(h:DO n q=[]):n<q:=by refine Nat.lt_of_not_le λE=>?_;have:List.range q∈DO n q:=GU.2 ⟨y9,aba,λx u=>by have:=zv.1 u;omega⟩;rw[h]at this;cases this
def WG{o:List Nat}(h:∀x∈o,x<1000):∀x∈DN o,-9223372036854775808<=x/\x<=Bh:=λx u=>by obtain⟨y,E,rfl⟩:=zw.1 u;have:=h y E;omega
def Z9(o:List Nat)(y:Nat):DN (o++[y])=DN o++[(y:Int)]:=by simp[DN]
def Ss(w:Aj)(za:Nat)(hb:za<=w):AW (w.alloc (.cells #[AI] 86)) za (.slice w 1 1) [[]]:=⟨[AI],T2 w za AI 86 hb,rfl,λj xs u=>by
 cases j with
 |zero=>simp at u;subst u;exact⟨_,rfl,Ay.nil _ _⟩
 |succ j=>simp at u⟩
def Wr{L:List (List Nat)}{j:Nat}{xs:An}(h:(Fg L)[j]? =some xs):∃o,L[j]? =some o/\xs=DN o:=by
 unfold Fg at h;rw[yd]at h;cases u:L[j]? with
 |none=>rw[u]at h;cases h
 |some o=>rw[u]at h;simp at h;exact⟨o,rfl,h.symm⟩
def AgY{o:List Nat}{j:Nat}{x:Int}(h:(DN o)[j]? =some x):∃y:Nat,o[j]? =some y/\x=(y:Int):=by
 unfold DN at h;rw[yd]at h;cases u:o[j]? with
 |none=>rw[u]at h;cases h
 |some y=>rw[u]at h;simp at h;exact⟨y,rfl,h.symm⟩
def AW.eL{w w':Aj}{b:Nat}{v u:Aw}{L:AT}(h:AW w b v L)(E:w.grownBy w' u.ownBlock)(H:∀b u xs,Ay w b u xs->Ay w' b u xs)(J:∀k,v.ownBlock=some k->u.ownBlock≠some k):AW w' b v L:=by
 obtain⟨vs,a,e,c⟩:=h;refine⟨vs,aan a E ?_,e,λj xs O=>let⟨x,T,U⟩:=c j xs O;⟨x,T,H _ _ _ U⟩⟩;cases V:v.ownBlock with
 |none=>exact .inl rfl
 |some k=>exact .inr (λe=>J k V e.symm)
def I4.less{w:Aj}{b b' m:Nat}{A:AD}{vs:List Aw}{M:AT}(h:I4 w b A m vs M)(hb:b'<=b):I4 w b' A m vs M:=⟨h.1,h.2.1,λj xs E=>let⟨u,e,H⟩:=h.2.2 j xs E;⟨u,e,H.less hb⟩⟩
def AaH(n:Nat)(w:Aj)(aP:n<=4):AC 29 #[n] w λe w'=>∃(A:AD)(k c:Nat),e=.returned (.slice A k c)/\Bf w' A k (Fg (Gp n))/\Ae w w':=by
 have aj:=Ss w w (zs _);have aQ:Ae w (w.alloc (.cells #[AI] 86)):=(Ae.refl _).alloc _;have am:=Ss (w.alloc (.cells #[AI] 86)) w (by rw[z3];omega);have an:Ae (w.alloc (.cells #[AI] 86)) ((w.alloc (.cells #[AI] 86)).alloc (.cells #[AI] 86)):=(Ae.refl _).alloc _;have aj:=aj.ext an;rw[z3]at am;have bL:=zk aj;have bM:=zk am;have bN:=zk (aQ.trans an);clear aj am aQ an;go_enter func29,ntmps29;go_wp2;go_loopg[3,4](n+1)(λbO bP bQ wr=>∃q:Nat,q+bO=n+1/\AW wr w bP (Fg (Ng n q))/\AW wr w bQ (Fg (DO n q))/\Ae w wr);case atStart=>exact⟨0,Ad,bL,bM,bN⟩
 case round=>
  obtain⟨q,bR,ao,aR,u⟩:=hrel;obtain⟨H,rfl⟩:∃H:Aj,H=wr:=⟨_,rfl⟩;have bS:(DO n q).length<=24:=ZQ n aP q Ad;have aq:∀o∈DO n q,o.length=q/\∀x∈o,x<n:=λo J=>by have:=GU.1 J;exact⟨this.1,this.2.2⟩
  have ac:(Ng n q).length<=24*6:=by unfold Ng;have:=Gt (L:=List.range (q+1)) (f:=DO n) (k:=24) λx E=>ZQ n aP x (by have:=zv.1 E;omega);rw[y9]at this;have:(q+1)*24<=6*24:=ym Ad (zs _);omega
  obtain⟨cF,O,cG,rfl,au,bT⟩:=aR.aC (λxs E=>by obtain⟨o,J,rfl⟩:=zw.1 E;have:=aq o J;exact⟨by unfold DN;rw[z2];omega,WG λx E=>by have:=this.2 x E;omega⟩) (by unfold Fg;rw[z2];omega);have av:O=(DO n q).length:=by have:=au.1;unfold Fg at this;rw[z2]at this;omega
  obtain⟨bU,no,co,rfl,_,_⟩:=ao.form;have aw:=zk ao;have aS:=zk au;have bV:=zk aq;have aT:=zk ac;have ad:=zk u;have cH:=zk av;have cI:O<=24:=Ad;have bW:Hid (DO n (q+1)=Uz n (DO n q) O):=zk (by show PH n (DO n q)=_;unfold PH Uz;rw[z1 Ad];rfl);have bX:=zk (RM n q);clear ao aR au aq ac u bS bT;by_cases bY:0<O
  . have cJ:q<=n:=by
     rcases aab n q with h|h;have:q=n+1:=Ad;have:(DO n q).length=0:=by rw[List.length_eq_zero_iff,acd];intro o J;have ae:=GU.1 J;have ax:=yf ae.2.1 (l₂:=List.range n) (λx E=>zv.2 (ae.2.2 x E));rw[y9]at ax;omega
     omega;exact h
    have cK:(0:Int)<(O:Int):=Ad;clear av;go_wp2;go_loopw[5,6](λay v wr=>∃(z:Nat)(M:List (List Nat)),z<=O/\v=z/\AW wr H ay (Fg M)/\M=Uz n (DO n q) z/\M.length<=4*z/\Ae H wr)(λ_ v _=>O-(intOf v).toNat);case atStart=>exact⟨0,[],zx _,rfl,AW.nil _ _,by simp[Uz],AG,Ae.refl _⟩
    case round=>
     obtain⟨z,M,cL,rfl,Z,az,cM,u⟩:=hrel;have ak:=zk Z;have aU:=zk az;have al:=zk u;by_cases aV:z<O
     . obtain⟨bZ,xs,aW,T,b0,rfl,aA,af,ag⟩:=(aS.ext u).at_ aV;obtain⟨o,J,rfl⟩:=Wr aA;obtain⟨aX,aY⟩:=bV o (zm J);have cN:=zk aY;have b1:=zk J;have aZ:T=q:=by have:=ag.1;unfold DN at this;rw[z2]at this;omega
       have cO:T<=4:=Ad;have a1:=zk aX;have b2:=zk aZ;have a5:Hid (H.cell? (bZ.add z)=some (.slice aW T b0)/\AB H aW T (DN o)):=zk (by obtain⟨cP,cQ,A',n',c',b3,aB,a6,b4⟩:=aS.at_ aV;cases b3;have a7:=u.cell a6;rw[af]at a7;cases a7;have a8:=aB.out;rw[aA.out]at a8;cases a8;exact⟨a6,b4⟩);have cR:(z:Int)<(O:Int):=Ad;have cS:(0:Int)<=(z:Int):=Ad;clear Z az u aA af ag J aX aY aZ;go_wp2;go_loopw[5,7](λay v wr=>∃(y:Nat)(V:List (List Nat)),y<=n/\v=y/\AW wr H ay (Fg (M++V))/\V=MZ o y/\V.length<=y/\Ae H wr)(λ_ v _=>n-(intOf v).toNat);case atStart=>exact⟨0,[],zx _,rfl,by rw[yg];exact ak,by simp[MZ],AG,al⟩
       case round=>
        obtain⟨y,V,cT,rfl,Z,aC,cU,u⟩:=hrel;have aD:=zk Z;have aE:=zk aC;have ah:=zk u;by_cases cV:y<n
        . have af:=u.cell a5.out.1;have ag:=a5.out.2.ext u;have a9:=zk ag;have ba:=zk (Ad6 o y);have cW:(y:Int)<(n:Int):=Ad;clear Z aC u ag;go_wp2;go_loop[8,9](λh v=>∃j:Nat,j<=T/\v=j/\h=.bool ((o.take j).contains y))(λ_ v=>T-(intOf v).toNat);case atStart=>exact⟨0,zx _,rfl,AG⟩
          case round=>
           obtain⟨j,cX,rfl,rfl⟩:=hrel;by_cases b5:j<T
           . obtain⟨cY,cZ,rfl,bc,c0,_⟩:=a9.at_ b5;obtain⟨x,bd,rfl⟩:=AgY bc;have aF:Hid ((o.take (j+1)).contains y=((o.take j).contains y||x==y)):=zk (by
              rw[AM bd];by_cases e:x=y;subst e;simp;have:(x==y)=false:=by simpa using e
              rw[this,Bool.or_false,acb,List.contains_iff_mem,List.contains_iff_mem,zz];simp;exactλh=>absurd h.symm e)
             have c9:(j:Int)<(T:Int):=Ad;have da:(0:Int)<=(j:Int):=Ad;clear bc bd;cases U:(o.take j).contains y with
             |true=>
              have aa:=zk U;clear U;go_wp2;go_round;case rel=>exact⟨j+1,Ad,by go_num,by rw[aF.out,aa.out];rfl⟩
              case measure=>simp[intOf];omega
             |false=>
              have aa:=zk U;clear U;by_cases e:x=y
              . have b6:((x:Int)==(y:Int))=true:=by simp[e]
                have aG:Hid ((x==y)=true):=zk (by simp[e]);clear e;go_wp2;go_round;case rel=>exact⟨j+1,Ad,by go_num,by rw[aF.out,aG.out,Bool.or_true]⟩
                case measure=>simp[intOf];omega
              . have b6:((x:Int)==(y:Int))=false:=Ca;have aG:Hid ((x==y)=false):=zk (by simpa using e);clear e;go_wp2;go_round;case rel=>exact⟨j+1,Ad,by go_num,by rw[aF.out,aG.out,aa.out];rfl⟩
                case measure=>simp[intOf];omega
           obtain rfl:T=j:=Ad;have b7:Hid (o.take T=o):=zk (z1 (by have:=a1.out;have:=b2.out;omega));rw[b7.out];cases U:o.contains y with
           |true=>
            have aa:=zk U;clear U;go_wp2;go_roundw;case rel=>exact⟨y+1,V,Ad,by go_num,aD,by rw[ba.out,aa.out,zq rfl,yg];exact aE.out,Ad,ah⟩
            case measure=>simp[intOf];omega
           |false=>
            have aa:=zk U;clear U;have be:=KV wr;have bf:=zk be;have b8:=zk (a9.ext ((Ae.refl wr).alloc (.cells #[] 3)));have af:=(Ae.refl wr).alloc (.cells #[] 3)|>.cell af;clear be;go_wp2_with(first
             |(at_builtin;refine Kg _ rfl (.tmp 50) (.tmp 54) rfl wr _ [] rfl bf.out _ _ _ (DN o) rfl b8.out Ca AG ?_;intro dc bh bi bj b9;have bk:=zk bi;have bn:Hid (Ae wr bh):=Ae.grown ((Ae.refl wr).alloc _) bj (λk e=>(bf.out.J k e).1);have cc:=zk (BD bh y 3);clear bi bj b9)
             |(at_builtin;refine BW _ rfl (.tmp 55) (.tmp 57) rfl wr _ ([]++DN o) rfl (bk.out.alloc _) _ _ (y:Int) rfl cc.out Ad (by unfold DN;simp;have:=a1.out;omega) (by have:=bn.out.size;simp;omega) ?_;intro v6 br aH bt ce;obtain⟨dd,de,df,rfl⟩:=Ay.form aH;have cf:=zk aH;have aI:Hid (Ae wr br):=Ae.grown (bn.out.alloc _) bt (λk e=>(bk.out.J k e).1);clear aH bt ce)
             |(have cg:=zk (Ho br H _ _ _ _ (cf.out.less ah.out.size));at_builtin;refine EM _ rfl (.tmp 49) (.tmp 59) rfl H _ (Fg (M++V)) rfl ((aD.out.ext aI.out).ext ((Ae.refl _).alloc _)) _ _ _ _ _ rfl cg.out (by unfold Fg;rw[z2,zu];omega) (by have:=(ah.out.trans aI.out).size;simp;omega) ?_;intro ch ci cj bu bw bx bz _;have cm:=zk bw;have bA:Hid (Ae H bu):=Ae.grown ((ah.out.trans aI.out).alloc _) bx bz;clear bw bx bz))
            go_roundw;case rel=>
             have bB:MZ o (y+1)=V++[o++[y]]:=by rw[ba.out,aa.out,aE.out];rfl
             have h:=cm.out;rw[List.nil_append,<-Z9]at h;have ab:AW bu H (.slice ch ci cj) (Fg (M++MZ o (y+1))):=by rw[bB,<-yy,UD];exact h
             have ae:(MZ o (y+1)).length<=y+1:=by rw[bB];simp;omega
             first
              |exact⟨y+1,Ad,Ad,MZ o (y+1),ab,rfl,ae,bA⟩
              |exact⟨y+1,MZ o (y+1),Ad,by go_num,ab,rfl,ae,bA⟩
            case measure=>simp[intOf];omega
        obtain rfl:n=y:=Ad;clear Z aC u;go_wp2;go_roundw;case rel=>exact⟨z+1,M++V,Ad,by go_num,aD,by rw[Ad8 n b1.out,aU.out,aE.out],Ca,ah⟩
        case measure=>simp[intOf];omega
     obtain rfl:O=z:=Ad;clear Z az u;have dg:M.length<=4*24:=Ad;obtain⟨bC,aJ,bD,cn,cp,aK,bE⟩:=ak.src (by unfold Fg;rw[z2];omega);have dh:aJ<=100:=by unfold Fg at aK;rw[z2]at aK;omega
     have cq:=zk (bE.less ad.size);have cr:=zk (aw.ext al);subst cp;have bF:∀k,(Value.slice bC aJ bD).ownBlock=some k->(Value.slice bU no co).ownBlock≠some k:=λk e aB=>by have aL:=(ak.J k e).1;have ab:=(aw.J k aB).2;omega
     have cs:=zk bF;clear aK bE bF;go_wp2_with(at_builtin;refine EM _ rfl (.tmp 61) (.tmp 62) rfl w _ (Fg (Ng n q)) rfl cr.out bC aJ bD cn (Fg M) rfl cq.out (by unfold Fg;rw[z2];have:=aT.out;omega) (ad.out.trans al.out).size ?_;intro ct cu cv cx bG aM bH bI;have cy:=zk bG;have cz:=zk (ak.out.eL aM bI cs.out);have cA:Hid (Ae w cx):=Ae.grown (ad.out.trans al.out) aM bH;clear bG aM bH bI)
     go_roundg(gk-1);case rel=>
      have bJ:DO n (q+1)=M:=by rw[bW.out,aU.out]
      refine⟨q+1,Ad,?_,?_,cA⟩;rw[bX.out,UD,bJ];exact cy;rw[bJ];exact cz.less ad.size
     case measure=>omega
  have cB:O=0:=Ad;have aN:DO n q=[]:=z9 Ad;have cC:=Aii aN;have aO:q=n+1:=Ad;have ac:Ng n q=Gp n:=by
   rw[aO,RM];have:DO n (n+1)=[]:=by rw[<-aO];exact aN
   rw[this,yg];rfl
  have bK:=zk ac;subst cB;clear av aN cC aO ac bY bR;go_wp2;go_ret;have aL:=aw.out;rw[bK.out]at aL;obtain⟨ct,cu,cv,cD,cE,_⟩:=aL.aC (λxs E=>by obtain⟨o,J,rfl⟩:=zw.1 E;have ab:=Mo.1 J;refine⟨?_,WG λx E=>by have:=ab.2 x E;omega⟩;unfold DN;rw[z2];have ax:=yf ab.1 (l₂:=List.range n) (λx E=>zv.2 (ab.2 x E));rw[y9]at ax;omega) (by unfold Fg;rw[z2,<-bK.out];have:=aT.out;omega);cases cD;exact⟨_,_,_,rfl,cE,ad⟩
def VB{w:Aj}{E H J O T U:Nat}{t1 t2:TypeId}{u v:Aw}{V vs:List Aw}(Z:w.ownsRow E t1 J u T V)(aa:w.ownsRow H t2 O v U vs)(ab:t1≠t2):u.ownBlock=none\/u.ownBlock≠v.ownBlock:=by
 rcases aa.2 with⟨rfl,_⟩|⟨ac,zh,ae,rfl,_,ad,_⟩;cases e:u.ownBlock with
 |none=>exact Or.inl rfl
 |some k=>exact Or.inr (by simp[Value.ownBlock])
 exact Or.inr (D3 Z (g:=ac) (t:=t2) ad ab)
def Aic:LF 44 46 AI 1 24:=⟨underlying44,AJ,rfl,Ax,Ax⟩
def Ia(w:Aj)(b:Nat)(v:Aw)(E:List (List (Nat×Int))):Prop:=∃vs,AP w b 46 1 v vs.length vs/\vs.length=E.length/\∀(j:Nat)(P:List (Nat×Int)),E[j]? =some P->∃u,vs[j]? =some u/\En w b u P
def Ia.nil(w:Aj)(b:Nat):Ia w b AI []:=⟨[],AP.nil _ _ _ _,rfl,λ_ _ h=>by simp at h⟩
def Ia.ext{w w':Aj}{b:Nat}{v:Aw}{E:List (List (Nat×Int))}(h:Ia w b v E)(H:Ae w w'):Ia w' b v E:=let⟨vs,J,O,T⟩:=h;⟨vs,J.ext H,O,λj P U=>let⟨u,e,V⟩:=T j P U;⟨u,e,AP.ext V H⟩⟩
def AcZ(w:Aj){zf:Array Oper}{rest:List Oper}{o:Oper}{a:Act}{Q:Exit->Act->Aj->Prop}(ac:o.guard=none)(s x:Operand) (ad:o.op=.call {callee:=.builtin .append,args:=#[s,x],argTypes:=#[44,44]}) (za:Nat)(v:Aw)(H:List (List (Nat×Int)))(P:List (Nat×Int))(ae:a.eval s=v)(af:Ia w za v H)(A:AD)(c:Nat)(B:AD)(n d:Nat)(ag:a.eval x=.slice A 1 c)(ah:BA w A 1 1 [.slice B n d])(aj:En w za (.slice B n d) P)(hb:H.length<=1000000000)(ak:za<=w) (h:∀J O T w',Ia w' za (.slice J O T) (H++[P])->w.grownBy w' v.ownBlock->(∀k,v.ownBlock=some k->za<=k)->wpList prog zf Q rest (a.put o.dst (.slice J O T)) w'):wpList prog zf Q (o::rest) a w:=by
 obtain⟨vs,U,V,al⟩:=af;refine D6 Aic w ac s x ad za v vs.length vs ae U A 1 c [.slice B n d] ag ah (λu am=>by rw[zy.1 am];rfl) Ad ak λau w' Z aa av=>?_;obtain⟨J,O,T,rfl⟩:=AP.form Z;have keep:∀u P,En w za u P->En w' za u P:=λu P ab=>aan ab aa (VB ab U Ax);refine h J O T w' ⟨vs++[.slice B n d],by rw[zu];exact Z,by simp[V],λj Q E=>?_⟩ aa (λk e=>(xy U k e).1);by_cases an:j<H.length;rw[yh an]at E;obtain⟨u,e,hi⟩:=al j Q E;exact⟨u,by rw[yh Ad];exact e,keep _ _ hi⟩;rw[yi Ad]at E;have ao:j=H.length:=by have:=(zl.1 E).1;simp at this;omega
 subst ao;simp at E;subst E;exact⟨.slice B n d,by rw[yi Ad];simp[V],keep _ _ aj⟩
def AiT(w:Aj)(A:AD)(n:Nat)(u:List (List (Nat×Int))):Prop:=u.length=n/\∀(k:Nat),k<n->∃E B m d P,A=some E/\u[k]? =some P/\w.cell? (E.add k)=some (.slice B m d)/\KI w B m P
def Ia.rd{w:Aj}{b:Nat}{v:Aw}{E:List (List (Nat×Int))}(h:Ia w b v E)(af:E.length<=1000)(J:∀P∈E,P.length<=1000):∃A n c,v=.slice A n c/\AiT w A n E:=by obtain⟨vs,O,T,U⟩:=h;obtain⟨A,c,e,V,_⟩:=AP.aC O Ad;refine⟨A,_,c,e,T.symm,λk ag=>?_⟩;have H:E[k]? =some E[k]:=zr Ad;obtain⟨u,Z,aa⟩:=U k _ H;obtain⟨B,d,rfl,ab⟩:=En.cT aa (J _ (zm H));obtain⟨ac,ad,ae⟩:=V.2.2 Ad;exact⟨ac,B,_,d,_,ad,H,ae k _ Z,ab⟩
def AfT{zc:List Ba}{l:List AZ}{zj:Int}{o:List Nat}{p:List (Nat×Int)}(h:GI zc l zj o=some p)(u:Ha l p=true):FH zc l zj o=some p:=by unfold FH;rw[h];simp[u]
def AgQ{zc:List Ba}{l:List AZ}{zj:Int}{o:List Nat}{p:List (Nat×Int)}(h:GI zc l zj o=some p)(u:Ha l p=false):FH zc l zj o=none:=by unfold FH;rw[h];simp[u]
def AfI{zc:List Ba}{l:List AZ}{zj:Int}{o:List Nat}(h:GI zc l zj o=none):FH zc l zj o=none:=by unfold FH;rw[h]
def W6:∀n,n<=4->(Gp n).length<=65:=by decide+kernel
def AhZ(S:Nat)(K zj:Int)(A:AD)(n c:Nat)(zc:List Ba)(B:AD)(m d:Nat)(l:List AZ)(w:Aj)(h:Dt w S K zj A n zc B m l):AC 8 #[.agg #[S,K,zj,.slice A n c],.slice B m d] w λe w'=>∃(A:AD)(k c:Nat),e=.returned (.slice A k c)/\AiT w' A k (Ij zc l zj)/\Ae w w':=by
 have V:Ae w (w.alloc (.cells #[S,K,zj,.slice A n c] 24)):=(Ae.refl _).alloc _;have hb:=Aq.new w 24 #[S,K,zj,.slice A n c];generalize a7:w.alloc (.cells #[S,K,zj,.slice A n c] 24)=a8 at *;have H:=h.ext V;have a9:=V;have ba:=hb;have aE:=h.hm;have aF:=zk h.len;have bc:=W6 m aE;clear h V hb;go_enter func8,ntmps8;go_wp2_with fail
 refine(AaH m a8 aE).mono ?_;rintro e af⟨bO,Z,bP,rfl,aG,ag⟩;have aH:Z=(Gp m).length:=by have:=aG.1;unfold Fg at this;rw[z2]at this;omega
 have bQ:Z<=65:=Ad;have bd:=zk aH;have U:=ba.ext ag;have be:Hid (Ij zc l zj=(Gp m).filterMap (FH zc l zj)):=zk (by unfold Ij;rw[aF.out]);clear a7 aH bc;go_wp2;go_loopw[5,7](λv i wr=>∃(j:Nat)(u:List (List (Nat×Int))),j<=Z/\i=j/\Ia wr af v u/\u=((Gp m).take j).filterMap (FH zc l zj)/\u.length<=j/\Ae af wr)(λ_ i _=>Z-(intOf i).toNat);case atStart=>exact⟨0,[],zx _,rfl,Ia.nil _ _,AG,AG,Ae.refl _⟩
 case round=>
  obtain⟨j,u,bR,rfl,aI,au,bS,O⟩:=hrel;have bf:=zk au;by_cases bh:j<Z
  . obtain⟨bT,xs,bi,aJ,bj,rfl,aK,aL,ac⟩:=(aG.ext O).at_ bh;obtain⟨o,av,rfl⟩:=Wr aK;obtain⟨aM,aw⟩:=Mo.1 (zm av);have bk:o.length<=4:=by have ax:=yf aM (l₂:=List.range m) (λx V=>zv.2 (aw x V));rw[y9]at ax;omega
    have bn:aJ<=100:=by have:=ac.1;unfold DN at this;rw[z2]at this;omega
    have ay:Hid (((Gp m).take (j+1)).filterMap (FH zc l zj)=u++(match FH zc l zj o with|some p=>[p]|none=>[])):=zk (by rw[AM av,List.filterMap_append,<-au];cases br:FH zc l zj o<;>simp[br]);have bt:=Agf S K zj A n c zc B m d l bi aJ bj o wr.drew (H.ext (ag.trans O.drew)) (ac.ext (Ae.refl wr).drew) bn aw;have bU:(j:Int)<(Z:Int):=Ad;have bV:(0:Int)<=(j:Int):=Ad;have ah:=O.cell (U.cell 0);have aj:=O.cell (U.cell 1);have ak:=O.cell (U.cell 2);have al:=O.cell (U.cell 3);clear au aK ac av aM;go_wp2;go_cut[8,9](λbu bw aN=>∃(E:AD)(ad J:Nat)(aa:Int),bu=.slice E ad J/\bw=aa/\((∀p,GI zc l zj o=some p->En aN wr (.slice E ad J) p/\aa=0)/\(GI zc l zj o=none->aa≠0))/\Ae wr aN)
    case first=>
     go_region_law((go_simp;go_at_call 30;(refine bt.mono ?_);rintro e W⟨E,ad,J,aa,rfl,aO,T⟩;have bx:=zk aO;clear aO ah aj ak al aL))
     all_goals
      go_wp2_with fail
      go_meet;exact⟨E,ad,J,aa,rfl,rfl,bx,(Ae.refl wr).drew.trans T⟩
    case rest=>
     obtain⟨E,ad,J,aa,rfl,rfl,⟨az,aA⟩,am⟩:=hcut;generalize wc=bz at *;have T:=O.trans am;have aP:=aI.ext am;clear ah aj ak al aL;cases ab:GI zc l zj o with
     |none=>
      have aQ:=aA ab;have bW:(aa==0)=false:=by simpa using aQ
      have ae:Hid (FH zc l zj o=none):=zk (AfI ab);clear az aA ab aQ am;go_wp2;go_roundw;case rel=>exact⟨j+1,u,Ad,by go_num,aP,by rw[ay.out,ae.out];simp,Ad,T⟩
      case measure=>simp[intOf];omega
     |some p=>
      obtain⟨aB,rfl⟩:=az p ab;obtain⟨⟨s',aR⟩,an⟩:=RA (s:=zj) (out:=[]) (by simp[B0]) ab;rw[abd,List.nil_append]at an;have bX:p.length<=4:=by have:=aby List.length an;rw[z2]at this;have:=bk;omega
      have aS:∀q∈p,q.1<m:=λq bA=>aw q.1 (by rw[<-an];exact zw.2 ⟨q,bA,rfl⟩);obtain⟨bY,bZ,bB,aT⟩:=En.cT aB Ad;cases bB;have aU:O0 zc l zj p=Ha l p:=by unfold O0;rw[aR];rfl
      have aV:=AhF S K zj A n c zc B m d l E p.length J p bz (H.ext (ag.trans T)) aT Ad aS;rw[aU]at aV;have bC:=AP.less aB O.size;have ah:=T.cell (U.cell 0);have aj:=T.cell (U.cell 1);have ak:=T.cell (U.cell 2);have al:=T.cell (U.cell 3);have aW:=zk ab;clear az aA ab am aB aR an aS aT aU;go_wp2_with fail
      refine aV.mono ?_;rintro e aC⟨rfl,ao⟩;have aD:=T.trans ao;have aX:=aP.ext ao;have bD:=AP.ext bC ao;clear ao ah aj ak al;cases aq:Ha l p with
      |false=>
       have ae:Hid (FH zc l zj o=none):=zk (AgQ aW aq);clear aq;go_wp2;go_roundw;case rel=>exact⟨j+1,u,Ad,by go_num,aX,by rw[ay.out,ae.out];simp,Ad,aD⟩
       case measure=>simp[intOf];omega
      |true=>
       have ae:Hid (FH zc l zj o=some p):=zk (AfT aW aq);have ac:=BA.bz aC #[.slice E p.length J] 46;have bE:(BA (aC.alloc (.cells #[.slice E p.length J] 46)) aC 1 1 [.slice E p.length J]):=ac;clear aq ac;go_wp2_with(at_builtin;refine AcZ _ rfl (.tmp 37) (.tmp 39) rfl af _ u p rfl (aX.ext ((Ae.refl _).alloc _)) _ _ E p.length J rfl bE (AP.alloc bD _) Ad (by have:=aD.size;simp;omega) ?_;intro b0 b1 b2 bF bG aY aZ;have bH:Hid (Ae af bF):=Ae.grown (aD.alloc _) aY aZ;clear aY aZ)
       go_roundw;case rel=>exact⟨j+1,u++[p],Ad,by go_num,bG,by rw[ay.out,ae.out],Ca,bH⟩
       case measure=>simp[intOf];omega
  obtain rfl:Z=j:=Ad;skip;go_wp2;go_ret;have a1:Ij zc l zj=u:=by rw[be.out,bf.out,z1 (by have:=bd.out;omega)]
  obtain⟨bI,bJ,bK,bL,bM⟩:=Ia.rd aI Ad (λP a5=>by rw[<-a1]at a5;obtain⟨s,bN⟩:=(N6.1 a5).1;have a6:=Iv bN;have ax:=yf a6.1 (l₂:=List.range l.length) (λx V=>zv.2 (a6.2 x V).1);rw[y9,z2]at ax;have:=aF.out;omega);subst bL;rw[a1];exact⟨bI,bJ,bK,rfl,bM,a9.trans (ag.trans O)⟩
def AdQ(A:AD)(n c:Nat)(p:List (Nat×Int))(B:AD)(m d:Nat)(q:List (Nat×Int))(w:Aj)(ae:KI w A n p)(af:KI w B m q)(aC:n<=1000)(aD:m<=1000):AC 10 #[.slice A n c,.slice B m d] w λe w'=>e=.returned (.bool (decide (p=q)))/\Ae w w':=by
 have ag:=zk ae.len;have ah:=zk af.len;skip;by_cases aj:n=m
 . subst aj;go_enter func10,ntmps10;go_wp2;go_loopw[5](λi wr=>∃j:Nat,i=j/\j<=n/\p.take j=q.take j/\Ae w wr)(λi _=>n-(intOf i).toNat);case atStart=>exact⟨0,rfl,zx _,AG,Ae.refl _⟩
   case round=>
    obtain⟨j,rfl,aE,U,J⟩:=hrel;have ak:=zk U;by_cases al:j<n;obtain⟨aF,V,Z,rfl,aa,am,an⟩:=(ae.ext J).at_ al;obtain⟨aG,ab,ac,rfl,ad,u0,u1⟩:=(af.ext J).at_ al;have ax:=zk (AM aa);have ay:=zk (AM ad);have ao:=zk aa;have aq:=zk ad;have aH:(j:Int)<(n:Int):=Ad;have aI:(0:Int)<=(j:Int):=Ad;have a0:=λW(u:Ae wr W)=>u.cell am;have au:=λW(u:Ae wr W)=>u.cell an;have av:=λW(u:Ae wr W)=>u.cell u0;have aw:=λW(u:Ae wr W)=>u.cell u1;clear U aa ad am an u0 u1;by_cases H:V=ab
    . subst H;by_cases H:Z=ac;focus subst H
      rotate_left;focus
       have az:decide (Z=ac)=false:=zn H;have aA:(Z==ac)=false:=by simpa using H
       skip
      all_goals go_wp2;refine AL AJ ?_;(repeat first|apply Bg rfl (λW u=>Am) Am|apply AS rfl Am);refine AN λW u=>?_;have O:=J.trans u;clear u a0 au av aw;go_wp2
      go_ret;refine⟨?_,O⟩;rw[zn (λe=>H (by have E:=ao.out;have T:=aq.out;rw[e,T]at E;cases E;rfl))];rfl;go_roundw;case rel=>exact⟨j+1,by go_num,Ad,by rw[ax.out,ay.out,ak.out],O⟩
      case measure=>simp[intOf];omega
    have aB:¬(V:Int)=(ab:Int):=Ad;have aA:((V:Int)==(ab:Int))=false:=by simpa using aB
    go_wp2;refine AL AJ ?_;(repeat first|apply Bg rfl (λW u=>Am) Am|apply AS rfl Am);refine AN λW u=>?_;have O:=J.trans u;clear u a0 au av aw;go_wp2;go_ret;refine⟨?_,O⟩;rw[zn (λe=>H (by have E:=ao.out;have T:=aq.out;rw[e,T]at E;cases E;rfl))];rfl;obtain rfl:n=j:=Ad;clear U;go_wp2;go_ret;have E:=ak.out;rw[z1 (by have:=ag.out;omega),z1 (by have:=ah.out;omega)]at E;exact⟨by rw[zt E];rfl,J⟩
 have az:((n:Int)!=(m:Int))=true:=Ca;skip;go_enter func10,ntmps10;go_wp2;go_ret;refine⟨?_,Ae.refl _⟩;rw[zn (λe=>aj (by have E:=ag.out;have T:=ah.out;rw[e]at E;omega))];rfl
