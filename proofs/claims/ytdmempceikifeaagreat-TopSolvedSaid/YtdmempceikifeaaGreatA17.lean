import Derived.Test.YtdmempceikifeaaGreatA15
import Derived.Test.YtdmempceikifeaaGreatA16
set_option maxRecDepth 100000
set_option maxHeartbeats 16000000
set_option linter.all false
namespace Go.Proofs.YtdmempceikifeaaGreat
open Go.RowKit Tryz
structure F7(lev:Int->Int)(ys:An)(k:Nat)(top many:Int)(at_:Nat):Prop where
 start:k=0->top=-1/\many=0/\at_=0
 some_:0<k->∃y,at_<k/\ys[at_]? =some y/\lev y=top/\1<=many
 le:∀y∈ys.take k,lev y<=top
 cZ:many=(((ys.take k).filter λy=>decide (lev y=top)).length:Nat)
def F7.zero(u:Int->Int)(E:An):F7 u E 0 (-1) 0 0:=⟨λ_=>⟨rfl,rfl,rfl⟩,λh=>Ad,AG,AG⟩
def F7.up{E:Int->Int}{H:An}{k at_:Nat}{top many:Int}{y:Int}(h:F7 E H k top many at_)(J:H[k]? =some y)(O:top<E y):F7 E H (k+1) (E y) 1 k:=by
 refine⟨λh=>Ad,λ_=>⟨y,Ad,J,rfl,Ad⟩,λz u=>?_,?_⟩;rw[AM J]at u;rcases zz.1 u with u|u;have:=h.le z u;omega;rw[zy.1 u];exact aat _;rw[AM J,y5];have:(H.take k).filter (λz=>decide (E z=E y))=[]:=by rw[aas];intro z u;have:=h.le z u;simp;omega
 rw[this];simp
def F7.same{E:Int->Int}{H:An}{k at_:Nat}{top many:Int}{y:Int}(h:F7 E H k top many at_)(J:H[k]? =some y)(O:E y=top)(U:0<=E y):F7 E H (k+1) top (many+1) at_:=by
 have T:0<k:=by rcases xe k with e|e;have:=(h.start e).1;omega;exact e
 obtain⟨x,V,a2,a3,a4⟩:=h.some_ T;refine⟨λh=>Ad,λ_=>⟨x,Ad,a2,a3,Ad⟩,λz u=>?_,?_⟩;rw[AM J]at u;rcases zz.1 u with u|u;exact h.le z u;rw[zy.1 u];omega;rw[AM J,y5,zu,h.cZ];simp[O]
def F7.low{E:Int->Int}{J:An}{k at_:Nat}{top many:Int}{y:Int}(h:F7 E J k top many at_)(O:J[k]? =some y)(T:E y<top)(U:0<=E y):F7 E J (k+1) top many at_:=by have H:0<k\/k=0:=Ad;refine⟨λh=>Ad,λ_=>?_,λz u=>?_,?_⟩;rcases H with H|H;obtain⟨x,V,a2,a3,a4⟩:=h.some_ H;exact⟨x,Ad,a2,a3,a4⟩;have Z:=(h.start H).1;omega;rw[AM O]at u;rcases zz.1 u with u|u;exact h.le z u;rw[zy.1 u];omega;rw[AM O,y5,zu,h.cZ];have:decide (E y=top)=false:=zn Ad;simp[this]
def F7.one{E:Int->Int}{u:An}{at_:Nat}{top many:Int}(h:F7 E u u.length top many at_)(ac:u.Nodup){y:Int}(O:y∈u)(T:∀x∈u,x≠y->E x<E y):many=1/\u[at_]? =some y:=by
 obtain⟨x,aj,a2,a3,a4⟩:=h.some_ (adb O);have U:=h.le;have V:=h.cZ;rw[x0]at U V;have Z:=zm a2;have ad:x=y:=by apply aad;intro H;have ak:=T x Z H;have al:=U y O;omega
 subst ad;refine⟨?_,a2⟩;have:(u.filter λz=>decide (E z=top))=[x]:=by
  have J:∀z∈u.filter (λz=>decide (E z=top)),z=x:=λz ae=>by obtain⟨af,ag⟩:=ye.1 ae;apply aad;intro H;have:=T z af H;simp at ag;omega
  have aa:=ac.filter (λz=>decide (E z=top));have ab:x∈u.filter (λz=>decide (E z=top)):=ye.2 ⟨Z,by simpa using a3⟩;generalize u.filter (λz=>decide (E z=top))=F at J aa ab;cases F with
  |nil=>cases ab
  |cons a F=>
   have ah:=J a (yx ..);subst ah;cases F with
   |nil=>rfl
   |cons b F=> have hb:=J b AG;subst hb;simp at aa
 rw[V,this];rfl
def AeJ(R:List AH)(xs:An)(w:Aj)(e:Bz)(w':Aj):Prop:=∃v u,e=.returned v/\Ay w' w v u/\u.Perm xs/\(∀y∈u,(∀x∈u,x≠y->AR R (Ak x)<AR R (Ak y))->u.head? =some y)/\Ae w w'
def AbO(w:Aj)(za p az:Nat)(lv aA:Aw)(zb:Nat)(R:List AH)(aB:An)(A:AD)(n c:Nat)(xs:An)(H:Bm w za p az lv aA zb R aB)(ae:AB w A n xs) (aC:∀x∈xs,Ak x≠0)(aD:xs.Nodup)(aU:xs.length<=1000000)(aV:∀x∈xs,0<=AR R (Ak x)/\AR R (Ak x)<=1000000):AC 232 #[.pointer p,.slice A n c] w (AeJ R xs w):=by
 have aW:=Ahm A n c xs w ae aC aD aU;have aX:=ae.2.2.1;clear ae aC;go_enter func232,ntmps232;go_wp2_with fail
 refine aW.mono ?_;rintro e aY⟨v1,u,rfl,af,U,ag⟩;have bn:u.length=xs.length:=U.length_eq;have aZ:∀y∈u,0<=AR R (Ak y)/\AR R (Ak y)<=1000000:=λy ah=>aV y (U.mem_iff.1 ah);have aE:∀y∈u,-9223372036854775808<=y/\y<=Bh:=λy ah=>aX y (U.mem_iff.1 ah);obtain⟨br,O,aF,rfl,aj,bt⟩:=af.aQ Ad aE;have bu:=aj.1;have ak:=af;clear af aE;go_wp2;go_loopw[6,7,8,17](λt m a i wr=>∃(top many:Int)(at_ k:Nat),t=top/\m=many/\a=at_/\i=k/\k<=O/\F7 (λy=>AR R (Ak y)) u k top many at_/\Ae aY wr)(λ_ _ _ i _=>O-(intOf i).toNat);case atStart=>exact⟨-1,0,0,0,rfl,rfl,rfl,rfl,Ad,F7.zero _ _,Ae.refl _⟩
 case round=>
  obtain⟨top,many,at_,k,rfl,rfl,rfl,rfl,bw,J,E⟩:=hrel;skip;by_cases al:k<O
  . obtain⟨a1,l,rfl,ab,bx,bz,bA⟩:=(aj.ext E).at_ al;have aG:=aZ l (zm ab);obtain⟨z,T⟩:∃z,AR R (Ak l)=z:=⟨_,rfl⟩;have am:=GS wr za p az lv aA zb R aB (Ak l) (H.ext (ag.trans E));rw[T]at aG am;obtain⟨bB,bC⟩:=aG;have V:=zk T;have aH:=am;have a5:(0:Int)<=(k:Int):=Ad;have a6:(k:Int)<(O:Int):=Ad;clear T am;by_cases a7:top<z
    . go_wp2_with fail
      refine(BF _ _).mono ?_;rintro e w2⟨rfl,rfl⟩;go_wp2_with fail
      refine aH.mono ?_;rintro e w2⟨rfl,Z⟩;skip;go_wp2;go_roundw;case rel=>exact⟨_,1,k,k+1,rfl,rfl,rfl,by go_num,Ad,by have:=J.up ab (by rw[V.out];exact a7);rw[V.out]at this;exact this,E.trans Z⟩
      case measure=>simp[intOf];omega
    . by_cases ac:z=top;focus
       have a8:(z==top)=true:=by simpa using ac
       have aI:many<=1000000/\0<=many:=by have:=J.cZ;have an:=yl (λy=>decide (AR R (Ak y)=top)) (u.take k);rw[ya]at an;omega
       obtain⟨bD,bE⟩:=aI
      rotate_left;focus have a8:(z==top)=false:=by simpa using ac
      all_goals
       skip;go_wp2_with fail
       refine(BF _ _).mono ?_;rintro e w2⟨rfl,rfl⟩;go_wp2_with fail
       refine aH.mono ?_;rintro e w2⟨rfl,Z⟩;skip;go_wp2
      go_roundw;case rel=>exact⟨top,many,at_,k+1,rfl,rfl,rfl,by go_num,Ad,J.low ab (by rw[V.out];have:=ac;omega) (by rw[V.out];omega),E.trans Z⟩
      case measure=>simp[intOf];omega
      go_roundw;case rel=>exact⟨top,many+1,at_,k+1,rfl,rfl,rfl,by go_num,Ad,J.same ab (by rw[V.out];exact ac) (by rw[V.out];omega),E.trans Z⟩
      case measure=>simp[intOf];omega
  . obtain rfl:k=u.length:=Ad;have aJ:=J;have aK:u.Nodup:=U.nodup_iff.2 aD;by_cases ao:many=1
    . have aq:0<u.length:=by rcases xe u.length with e|e;have:=(J.start e).2.1;omega;exact e
      obtain⟨y,bF,a2,a3,a4⟩:=J.some_ aq;have aL:=aj.ext E;obtain⟨a1,a9,aM⟩:=aL.2.2.2 Ad;have ba:=aM at_ y a2;obtain⟨g,bG,aN,_⟩:=ak.full (λe=>by rw[e]at aq;simp at aq);subst a9;have au:=(acy aN).1;injection au with au;subst au;have aO:(g:Addr).add at_=⟨g,at_,none⟩:=by unfold Addr.add;split<;>simp_all
      rw[aO]at ba;have a5:(0:Int)<=(at_:Int):=Ad;have a6:(at_:Int)<(O:Int):=Ad;have av:=AcU wr w g O aF at_ u (ak.ext E) Ad;rw[show((at_+1:Nat):Int)=(at_:Int)+1 by omega]at av;have bc:=av;have aP:=zk a2;have bH:=zk a3;subst ao;clear av aM aL a2 a3 aO aN al aJ;go_wp2_with fail
      refine bc.mono ?_;rintro e w2⟨bI,aa,aQ,rfl,aw,aR,bd,be⟩;injection aa with aa;injection aa with aa;subst aa;have Z:=(ag.trans E).grown aR (λk e=>by injection e with e;rw[<-e];exact aQ);have bJ:=(aw.J g rfl).2;have bf:=Zq (w2.alloc (.cells #[y] 3)) w g O aF w2 y (u.take at_++u.drop (at_+1)) (aw.alloc _) Ca bd be (Aq.new w2 _ _) Ad;clear aw aR;go_wp2_with fail
      refine bf.mono ?_;rintro e bK⟨rfl,bh,aS⟩;have bi:=(Z.alloc _).grown aS (λk e=>by injection e with e;rw[<-e];exact aQ);clear aS;go_wp2;go_ret;have ax:(y::(u.take at_++u.drop (at_+1))).Perm u:=by
       have aT:=zl.1 aP;have an:u=u.take at_++y::u.drop (at_+1):=by conv=>lhs;rw[<-xt at_ u,y8 aT.1,aT.2]
       conv=>rhs;rw[an]
       exact(List.perm_middle).symm
      refine⟨_,_,rfl,bh,ax.trans U,λz T ay=>?_,bi⟩;have ad:=(J.one aK (ax.mem_iff.1 T) (λx bj bk=>ay x (ax.mem_iff.2 bj) bk)).2;rw[aP.out]at ad;injection ad with ad;rw[ad];rfl
    have aI:(many==1)=false:=by simpa using ao
    clear al aJ;go_wp2;go_ret;refine⟨_,u,rfl,ak.ext E,U,λz T ay=>?_,ag.trans E⟩;exact absurd (J.one aK T ay).1 ao
def Ah1(A:AD)(n c:Nat)(xs:An)(x:Int)(w:Aj)(h:AB w A n xs):AC 350 #[.slice A n c,x] w λe w'=>e=.returned (.bool (Fu xs x))/\w=w':=by
 have hb:=Ir x;by_cases u:Ak x=0;focus
  have E:Hid (Fu xs x=false):=by unfold Hid Fu;rw[u];rfl
  have H:=zk u
 rotate_left;focus
  have E:Hid (Fu xs x=Bd xs x):=by unfold Hid Fu;rw[zt u,abl]
  have hi:0<Ak x:=Ad
 all_goals
  clear u hb;go_enter func350,ntmps350;go_wp2_with fail
  refine(BF _ _).mono ?_;rintro e w'⟨rfl,rfl⟩
 focus
  go_wp2_with fail
  refine(EF _ _ _ xs _ _ h).mono ?_;rintro e w'⟨rfl,rfl⟩
 rotate_left;focus rw[H.out]
 all_goals
  go_wp2_with fail
  go_ret;exact⟨Bo E.symm,rfl⟩
def QU:Enters 351:=by intro args w;go_simp
def Lm(R:List AH)(l x:Int):Bool:=decide (x=-l)||decide (AR R (Ak x)=0)
def VM(H w:World)(za p T:Nat)(lv U:Value)(zb:Nat)(R:List AH)(V:List Int)(l x:Int)(Z aa:Nat)(ae:Bm H za p T lv U zb R V)(af:Ae H w)(an:-100000<=l/\l<=100000) (ab:w.cell? ⟨Z,0,none⟩=some (.pointer (some ⟨p,0,none⟩)))(ac:w.cell? ⟨aa,0,none⟩=some (.int .i64 l)):Calls prog 351 #[.int .i64 x,.pointer (some ⟨aa,0,none⟩),.pointer (some ⟨Z,0,none⟩)] w λe w'=>e=.returned (.bool (Lm R l x))/\Ae w w':=by
 have ag:=λ(W:World)(u:Ae w W)=>u.cell ab;have ah:=λ(W:World)(u:Ae w W)=>u.cell ac;have ao:¬l<=-9223372036854775808:=by omega
 have aq:-9223372036854775808<=-l:=by omega
 have au:-l<=9223372036854775807:=Ad;have av:IntKind.i64.wrap (-l)=-l:=z5 _ Ad;clear ab ac;by_cases E:x=-l;focus
  have hb:(x==-l)=true:=by simpa using E
  have ad:Hid (Lm R l x=true):=by unfold Hid Lm;simp[E]
  clear E
 rotate_left;focus
  have hb:(x==-l)=false:=by simpa using E
  obtain⟨z,J⟩:∃z,AR R (Ak x)=z:=⟨_,rfl⟩;have ad:Hid (Lm R l x=(z==0)):=by unfold Hid Lm;rw[zn E,J,aar];cases e:z==0<;>simp at e⊢<;>exact e
  have O:=λW(u:Ae H W)=>GS W za p T lv U zb R V (Ak x) (ae.ext u);rw[J]at O;have aj:=O;clear E J O
 all_goals go_enter func351,ntmps351;go_wp2;refine AL AJ ?_
 focus (repeat first|apply Bg rfl (λW u=>Am) Am|apply AS rfl Am);apply Bu (λW u=>(BF x W).mono λe w'⟨ak,al⟩=>⟨ak,al▸Ae.refl W⟩) rfl (λW u=>by go_simp) Am;(repeat first|apply Bg rfl (λW u=>Am) Am|apply AS rfl Am);apply Bu (λW u=>aj W (af.trans u)) rfl (λW u=>by go_simp) Am
 all_goals (repeat first|apply Bg rfl (λW u=>Am) Am|apply AS rfl Am);refine AN λW am=>?_;clear ag ah;go_wp2;go_ret;exact⟨Bo ad.symm,am⟩
def WY(ap u E:Nat)(y:Int):List (Nat×Spec):=[(0,.val (.pointer ap)),(4,.val (.pointer u)),(5,.val (.pointer E)),(8,.val y)]
def Ag9(ap p:Nat)(l y:Int)(c:An):List (Nat×Spec):=[(14,.val (.pointer p)),(15,.val l),(16,.val (.int .i64 (-1))),(17,.val false),(18,.val false),(19,.val y),(20,.val false),(21,.val false),(22,.val false),(23,.val (.pointer ap)),(24,.val y),(25,.ints (c)),(26,.val l),(27,.val (.int .i64 (-l))),(28,.val true),(29,.val false),(30,.val false)]
def Aak(o:Option (List Int))(w:World)(e:Ending)(w':World):Prop:=∃v b,e=.returned (.tuple #[v,.bool b])/\Ae w w'/\(∀rest,o=some rest->b=true/\Ay w' w.heap.size v rest)/\(o=none->b=false/\v=AI)
def JX{R:List AH}{cl:Int->Option An}{d:Int}(E:Bq R cl d){i:Nat}{r:AH}(hi:R[i]? =some r):(r.reason<0->Et R cl (-r.lit)=none)/\(0<=r.reason->∃c,cl r.reason=some c/\Bd c r.lit=true/\Et R cl (-r.lit)=some (c.filter λx=>!Lm R (-r.lit) x)):=by
 have J:Ak (-r.lit)=Ak r.lit:=Bk _;have Z:¬0<=CJ R (-r.lit):=by have:=(EH E.aE (l:=-r.lit)).2 (by rw[aaa];exact zm (Co hi));omega
 unfold Et;rw[J,(Dx E.aj hi).2];refine⟨λh=>by rw[zq (.inr h)],λh=>?_⟩;obtain⟨c,O,y,T,U,_⟩:=E.aY i r hi h;rw[zo (by rintro(V|V)<;>omega),O];have u:=Co hi;rw[T]at u;injection u with u;subst u;have H:=CD.2 U;refine⟨c,rfl,H,?_⟩;dsimp only;rw[aaa,zq H];congr 1;apply acj;intro x _;unfold Lm;rw[aaa]
def YA(w:Aj)(aM ap aN:Nat)(aO:Aw)(aP:Nat)(S:Fb)(za p ak:Nat)(lv al:Aw)(zb:Nat)(R:List AH)(am:An)(d:Int)(i:Nat)(r:AH)
 (aQ:BL w aM ap aN aO aP S)(af:Bm w za p ak lv al zb R am)(an:Bq R (AY S.rows) d)(hi:R[i]? =some r)(bd:-1<=r.reason/\r.reason<=Bh):
 AC 307 #[.pointer ap,.pointer p,.int .i64 (-r.lit)] w (Aak (Et R (AY S.rows) (-r.lit)) w):=by
 obtain⟨az,ao⟩:=JX an hi
 have be:=AU (af.ok r (zm hi))
 have aA:Ak (-r.lit)=Ak r.lit:=Bk _
 have aB:=(Dx an.aj hi).2
 have aR:CJ R (-r.lit)=-1:=by
  have Z:=(EH an.aE (l:=-r.lit)).2 (by rw[aaa];exact zm (Co hi))
  rcases IR R (-r.lit)with h|h|h<;>omega
 generalize E:-r.lit=l at *
 have bf:-100000<=l/\l<=100000:=Ad
 obtain⟨y,aS⟩:∃y,r.reason=y:=⟨_,rfl⟩
 rw[aS]at az ao aB bd
 have aC:r.lit=-l:=Ad
 rw[aC]at ao
 have aD:=λW(H:Ae w W)=>FW W za p ak lv al zb R am l (af.ext H) Ad Ad
 rw[aR]at aD
 have aq:=λW(H:Ae w W)=>Hl W za p ak lv al zb R am (Ak l) (af.ext H)
 rw[aA,aB]at aq
 rw[<-aA]at aq
 have au:=λW(H:Ae w W)=>I9 W aM ap aN aO aP S y (aQ.ext H) Ad
 have ag:Ae w (w.alloc (.cells #[.pointer p] 163)):=by grind
 have aT:=Aq.new w 163 #[.pointer p]
 have ab:Ae w ((w.alloc (.cells #[.pointer p] 163)).alloc (.cells #[l] 3)):=by grind
 have aU:=Aq.alloc aT (.cells #[l] 3)
 have aV:=Aq.b0 w (.cells #[.pointer p] 163) 3 #[l]
 have ac:=zk (aU.cell 0)
 have aa:=zk (aV.cell 0)
 have aW:=aD
 have bh:=aq
 have bi:=zk az
 have bj:=ao
 have bV:¬l<=-9223372036854775808:=Ad
 have bk:-9223372036854775808<=-l:=Ad
 have bW:-l<=Bh:=Ad
 have bX:=af.bh
 have bn:(Ak (-l)≠0):=by rw[<-aC];omega
 have bY:IntKind.i64.wrap (-l)=-l:=z5 _ Ad
 clear an hi ag aT aU aV aD aq az ao be aA aB aR E aS aC
 go_enter func307,ntmps307
 go_wp2
 generalize br:(w.alloc (.cells #[.pointer p] 163)).alloc (.cells #[l] 3)=aX at *
 clear br
 have aE:=λW(H:Ae aX W)=>H.cell ac
 have aF:=λW(H:Ae aX W)=>H.cell aa
 refine AL AJ ?_
 (repeat first|apply Bg rfl (λW H=>Am) Am|apply AS rfl Am)
 apply Bu (λW H=>(BF l W).mono λe w'⟨ad,Z⟩=>⟨ad,Z▸Ae.refl W⟩) rfl (λW H=>by go_simp) Am
 (repeat first|apply Bg rfl (λW H=>Am) Am|apply AS rfl Am)
 apply Bu (λW H=>bh W (ab.trans H)) rfl (λW H=>by go_simp) Am
 (repeat first|apply Bg rfl (λW H=>Am) Am|apply AS rfl Am)
 refine AN λW H=>?_
 clear aE aF
 have ab:=ab.trans H
 have ac:=zk (H.cell ac)
 have aa:=zk (H.cell aa)
 clear H
 go_wp2
 by_cases aG:y<0
 . have bt:decide (y<0)=true:=zt aG
   have bu:=zk (bi aG)
   clear au
   have aE:=λav(H:Ae W av)=>H.cell ac
   have aF:=λav(H:Ae W av)=>H.cell aa
   refine AL AJ ?_
   (repeat first|apply Bg rfl (λW H=>Am) Am|apply AS rfl Am)
   apply Bu (λW H=>aW W (ab.trans H)) rfl (λW H=>by go_simp) Am
   (repeat first|apply Bg rfl (λW H=>Am) Am|apply AS rfl Am)
   refine AN λav H=>?_
   clear aE aF
   have bw:=ab.trans H
   clear H
   go_wp2
   go_ret2
   exact⟨_,_,rfl,bw,λrest h=>(by rw[bu.out]at h;cases h),λ_=>⟨rfl,rfl⟩⟩
 . have bt:decide (y<0)=false:=zn aG
   obtain⟨c,aY,aZ,a1⟩:=bj Ad
   have aH:BY S.rows y=c:=by rw[Kw,aY];rfl
   rw[aH]at au
   have aw:=Im aQ.inv y
   rw[aH]at aw
   have a5:=au
   have bx:(c.length<=Bh):=Ad
   have a6:(∀x∈c,-9223372036854775808<=x/\x<=Bh):=λx U=>by have:=aw.1 x U;omega
   have bz:(c.length<=1000):=aw.2
   have bA:Fu c (-l)=true:=by unfold Fu;rw[aZ,zt bn];rfl
   have bB:=λ(A:AD)(n c':Nat)(W:Aj)(h:AB W A n c)=>(Ah1 A n c' c (-l) W h).mono λe w'⟨ad,Z⟩=>(⟨by rw[ad,bA],Z⟩:e=Ending.returned true/\W=w')
   have a7:=zk a1
   have bC:(w.heap.size+2<=W.heap.size):=by have ad:=xu _ _ aa;dsimp only at ad;omega
   clear au aw aH aY aZ a1
   refine Ry (J1 (WY ap w (w+1) y) (Ag9 ap p l y c)) AJ AJ J1.ext (J1.start AJ ?_) ?_ ?_
   exact XW (by simp[WY,Spec.holds])
   . simp only[List.forall_mem_cons]
     repeat' apply And.intro
     refine Ek [4] AJ none AJ (λk b J=>by cases J) (λK a W O U E=>?_)
     have bZ:a.tmps.getD 4 undef=.pointer w:=(E 4 Ax).1 _ rfl
     have a8:=U.cell ac
     have a9:=U.cell aa
     exact Es (v:=.pointer p) (by go_simp) (O _ _ (λt T=>by cases T;exact C4 rfl rfl rfl) (Ae.refl _))
     refine Ek [5] AJ none AJ (λk b J=>by cases J) (λK a W O U E=>?_)
     have bD:a.tmps.getD 5 undef=.pointer (some ⟨w+1,0,none⟩):=(E 5 Ax).1 _ rfl
     have a8:=U.cell ac
     have a9:=U.cell aa
     exact Es (v:=l) (by go_simp) (O _ _ (λt T=>by cases T;exact C4 rfl rfl rfl) (Ae.refl _))
     refine Ek [14,15] AJ none AJ (λk b J=>by cases J) (λK a W O U E=>?_)
     have b0:a.tmps.getD 14 undef=.pointer p:=(E 14 Ax).2 _ rfl
     have b1:a.tmps.getD 15 undef=l:=(E 15 Ax).2 _ rfl
     unfold Oper.wp
     rw[show(execOp a.eval _).run prog W=.ok (.enter 167 #[.pointer p,l]) W from by go_simp,x7]
     refine(aW W (ab.trans U)).mono ?_
     rintro e ba⟨rfl,ag⟩
     exact O _ _ (λt T=>by cases T;exact C4 rfl rfl rfl) ag
     refine Ek [16] AJ none AJ (λk b J=>by cases J) (λK a W O U E=>?_)
     have b2:a.tmps.getD 16 undef=.int .i64 (-1):=(E 16 Ax).2 _ rfl
     exact Es (v:=false) (by go_simp) (O _ _ (λt T=>by cases T;exact C4 rfl rfl rfl) (Ae.refl _))
     refine Ek [17] AJ none AJ (λk b J=>by cases J) (λK a W O U E=>?_)
     have b3:a.tmps.getD 17 undef=false:=(E 17 Ax).2 _ rfl
     exact Es (v:=false) (by go_simp) (O _ _ (λt T=>by cases T;exact C4 rfl rfl rfl) (Ae.refl _))
     refine Ek [8,18] AJ (some (18,false)) AJ (λk b J v w V=>by cases J;exact V.2 _ rfl) (λK a W O U E=>?_)
     have bE:a.tmps.getD 8 undef=y:=(E 8 Ax).1 _ rfl
     exact Es (v:=y) (by go_simp) (O _ _ (λt T=>by cases T;exact C4 rfl rfl rfl) (Ae.refl _))
     refine Ek [18,19] AJ (some (18,false)) AJ (λk b J v w V=>by cases J;exact V.2 _ rfl) (λK a W O U E=>?_)
     have b4:a.tmps.getD 19 undef=y:=(E 19 Ax).2 _ rfl
     exact Es (v:=false) (by go_simp) (O _ _ (λt T=>by cases T;exact C4 rfl rfl rfl) (Ae.refl _))
     refine Ek [18,20] AJ none AJ (λk b J=>by cases J) (λK a W O U E=>?_)
     have b5:a.tmps.getD 18 undef=false:=(E 18 Ax).2 _ rfl
     have b6:a.tmps.getD 20 undef=false:=(E 20 Ax).2 _ rfl
     exact Es (v:=false) (by go_simp) (O _ _ (λt T=>by cases T;exact C4 rfl rfl rfl) (Ae.refl _))
     refine Ek [21] AJ none AJ (λk b J=>by cases J) (λK a W O U E=>?_)
     have b7:a.tmps.getD 21 undef=false:=(E 21 Ax).2 _ rfl
     exact Es (v:=false) (by go_simp) (O _ _ (λt T=>by cases T;exact C4 rfl rfl rfl) (Ae.refl _))
     refine Ek [0,22] AJ (some (22,false)) AJ (λk b J v w V=>by cases J;exact V.2 _ rfl) (λK a W O U E=>?_)
     have b8:a.tmps.getD 0 undef=.pointer ap:=(E 0 Ax).1 _ rfl
     exact Es (v:=.pointer ap) (by go_simp) (O _ _ (λt T=>by cases T;exact C4 rfl rfl rfl) (Ae.refl _))
     refine Ek [8,22] AJ (some (22,false)) AJ (λk b J v w V=>by cases J;exact V.2 _ rfl) (λK a W O U E=>?_)
     have bE:a.tmps.getD 8 undef=y:=(E 8 Ax).1 _ rfl
     exact Es (v:=y) (by go_simp) (O _ _ (λt T=>by cases T;exact C4 rfl rfl rfl) (Ae.refl _))
     refine Ek [22,23,24] AJ (some (22,false)) AJ (λk b J v w V=>by cases J;exact V.2 _ rfl) (λK a W O U E=>?_)
     have b9:a.tmps.getD 23 undef=.pointer ap:=(E 23 Ax).2 _ rfl
     have cc:a.tmps.getD 24 undef=y:=(E 24 Ax).2 _ rfl
     unfold Oper.wp
     rw[show(execOp a.eval _).run prog W=.ok (.enter 217 #[.pointer ap,y]) W from by go_simp,x7]
     refine(a5 W (ab.trans U)).mono ?_
     rintro e ba⟨v1,rfl,bF,ag⟩
     obtain⟨ce,bk,cf,rfl,bG,_⟩:=bF.aQ bx a6
     exact O _ _ (λt T=>by cases T;exact C4 rfl rfl ⟨_,_,_,rfl,bG⟩) ag
     refine Ek [5,22] AJ (some (22,false)) AJ (λk b J v w V=>by cases J;exact V.2 _ rfl) (λK a W O U E=>?_)
     have bD:a.tmps.getD 5 undef=.pointer (some ⟨w+1,0,none⟩):=(E 5 Ax).1 _ rfl
     have a8:=U.cell ac
     have a9:=U.cell aa
     exact Es (v:=l) (by go_simp) (O _ _ (λt T=>by cases T;exact C4 rfl rfl rfl) (Ae.refl _))
     refine Ek [22,26] AJ (some (22,false)) AJ (λk b J v w V=>by cases J;exact V.2 _ rfl) (λK a W O U E=>?_)
     have cg:a.tmps.getD 26 undef=l:=(E 26 Ax).2 _ rfl
     exact Es (v:=.int .i64 (-l)) (by go_simp) (O _ _ (λt T=>by cases T;exact C4 rfl rfl rfl) (Ae.refl _))
     refine Ek [22,25,27] AJ (some (22,false)) AJ (λk b J v w V=>by cases J;exact V.2 _ rfl) (λK a W O U E=>?_)
     obtain⟨bH,bI,bJ,ch,bK⟩:=(E 25 Ax).2 _ rfl
     have ci:a.tmps.getD 27 undef=.int .i64 (-l):=(E 27 Ax).2 _ rfl
     unfold Oper.wp
     rw[show(execOp a.eval _).run prog W=.ok (.enter 350 #[.slice bH bI bJ,.int .i64 (-l)]) W from by go_simp,x7]
     refine(bB _ _ _ W bK).mono ?_
     rintro e ba⟨rfl,rfl⟩
     exact O _ _ (λt T=>by cases T;exact C4 rfl rfl rfl) (Ae.refl _)
     refine Ek [22,28] AJ (some (22,false)) AJ (λk b J v w V=>by cases J;exact V.2 _ rfl) (λK a W O U E=>?_)
     have cj:a.tmps.getD 28 undef=true:=(E 28 Ax).2 _ rfl
     exact Es (v:=false) (by go_simp) (O _ _ (λt T=>by cases T;exact C4 rfl rfl rfl) (Ae.refl _))
     . refine Ek [22,29] AJ none AJ (λk b J=>by cases J) (λK a W O U E=>?_)
       have cm:a.tmps.getD 22 undef=false:=(E 22 Ax).2 _ rfl
       have cn:a.tmps.getD 29 undef=false:=(E 29 Ax).2 _ rfl
       exact Es (v:=false) (by go_simp) (O _ _ (λt T=>by cases T;exact C4 rfl rfl rfl) (Ae.refl _))
     . intro x U;cases U
   . intro bL aI ah V
     have bM:bL 30=false:=(V 30 ⟨_,zm (i:=16) rfl,rfl⟩).2 _ rfl
     have ax:=ab.trans ah
     have aJ:=zk (ah.cell ac)
     have aK:=zk (ah.cell aa)
     have bN:(w.heap.size+2<=aI.heap.size):=z7 bC ah.size_le
     clear V ah
     simp only[Kn,List.foldl_cons,List.foldl_nil,List.setIfInBounds_toArray,List.set_cons_zero,List.set_cons_succ]
     go_wp2_with fail
     refine(a5 aI ax).mono ?_
     rintro e bO⟨v4,rfl,aL,ay⟩
     obtain⟨bP,bQ,bR,rfl⟩:=aL.form
     have bS:=ax.trans ay
     have bc:=aL
     have aJ:=zk (ay.cell aJ)
     have aK:=zk (ay.cell aK)
     have co:=ax.size_le
     clear aL ay bM
     go_wp2_with fail
     refine(Hj aI bP bQ bR c (Lm R l) 351 #[.pointer (some ⟨w+1,0,none⟩),.pointer w] bO (λW=>Ae w W/\W.cell? w=some (.pointer p)/\W.cell? ⟨w+1,0,none⟩=some l) ⟨bS,aJ,aK⟩ bc (λg e W' j u h=>?_) a6 (by have:=bz;omega) QU (λx _ W' ae=>?_)).mono ?_
     have cp:=Acm bc g e
     have ad:=bN
     exact⟨h.1.setCell (p:=⟨g,j,none⟩) (by show w<=g;omega) u,by rw[ab5 _ _ _ _ (by intro aj;injection aj with aj;omega)];exact h.2.1,by rw[ab5 _ _ _ _ (by intro aj;injection aj with aj;omega)];exact h.2.2⟩
     exact(VM w W' za p ak lv al zb R am l x w (w+1) af ae.1 bf ae.2.1 ae.2.2).mono λe w'⟨ad,Z⟩=>⟨ad,⟨ae.1.trans Z,Z.cell ae.2.1,Z.cell ae.2.2⟩,Z⟩
     rintro e cq⟨cr,rfl,bT,bU,-⟩
     skip
     go_wp2
     go_ret2
     exact⟨_,_,rfl,bU,λrest h=>(by rw[a7.out]at h;injection h with h;subst h;exact⟨rfl,bT.less ax.size_le⟩),λh=>(by rw[a7.out]at h;cases h)⟩
def YY{R:List AH}{cl:Int->Option An}{d:Int}(E:Bq R cl d){zd:An}{i:Nat}{r:AH}(hi:R[i]? =some r):BP R cl zd (-r.lit)=match Et R cl (-r.lit)with|some rest=>rest.all (λx=>Bd zd x||BP R cl zd x)|none=>false:=by
 have au:=(zl.1 hi).1;have Z:Ak (-r.lit)=Ak r.lit:=Bk _;have aa:BP R cl zd (-r.lit)=match Et R cl (-r.lit)with|some rest=>rest.all λx=>(decide (x≠-r.lit)&&Bd zd x&&decide (BH R (Ak x)<(i:Int)))||GB R cl zd R.length i x|none=>false:=by unfold BP;rw[GB,Z,(Ip E.aj hi),zo Ad];cases Et R cl (-r.lit)<;>rfl
 rw[aa];cases e:Et R cl (-r.lit)with
 |none=>rfl
 |some rest=>
  dsimp only;have ab:∀x∈rest,x≠-r.lit/\∃j:Nat,j<i/\BH R (Ak x)=j:=by
   obtain⟨ac,ad⟩:=JX E hi;intro x u;by_cases ae:r.reason<0;rw[ac ae]at e;cases e;obtain⟨c,af,av,ag⟩:=ad Ad;rw[ag]at e;injection e with e;subst e;obtain⟨ah,T⟩:=ye.1 u;obtain⟨aw,J,y,aj,ax,ay,ak⟩:=E.aY i r hi Ad;rw[af]at J;injection J with J;subst J;have O:=Co hi;rw[aj]at O;injection O with O;subst O;have al:x≠r.lit:=λh=>by subst h;unfold Lm at T;simp at T
   obtain⟨j,am,an⟩:=ak x ah al;obtain⟨s,U,V⟩:=EU an;have ao:Ak s.lit=Ak x:=by rw[V];exact Bk x
   refine⟨λh=>?_,j,am,by rw[<-ao];exact(Ip E.aj U)⟩;subst h;have:=Dk E.aj U hi (by rw[V,aaa]);omega
  rw[acb,yn,yn];have u:∀x∈rest,((decide (x≠-r.lit)&&Bd zd x&&decide (BH R (Ak x)<(i:Int)))||GB R cl zd R.length i x)=(Bd zd x||BP R cl zd x):=λx u=>by obtain⟨aq,j,az,aA⟩:=ab x u;rw[zt aq,zt (show BH R (Ak x)<(i:Int)by omega),abl,Bool.and_true];congr 1;unfold BP;exact Mf R.length (R.length+1) i R.length x Ad Ad Ad Ad
  exact⟨λh x H=>by rw[<-u x H];exact h x H,λh x H=>by rw[u x H];exact h x H⟩
def VZ{R:List AH}{cl:Int->Option An}{d:Int}(J:Bq R cl d){i:Nat}{r:AH}(hi:R[i]? =some r){rest:An}(u:Et R cl (-r.lit)=some rest):∀x∈rest,∃(j:Nat)(s:AH),j<i/\R[j]? =some s/\s.lit=-x:=by
 obtain⟨T,U⟩:=JX J hi;intro x V;by_cases Z:r.reason<0;rw[T Z]at u;cases u;obtain⟨c,aa,al,ab⟩:=U Ad;rw[ab]at u;injection u with u;subst u;obtain⟨ac,O⟩:=ye.1 V;obtain⟨am,E,y,ad,an,ao,ae⟩:=J.aY i r hi Ad;rw[aa]at E;injection E with E;subst E;have H:=Co hi;rw[ad]at H;injection H with H;subst H;have af:x≠r.lit:=λh=>by subst h;unfold Lm at O;simp at O
 obtain⟨j,ag,ah⟩:=ae x ac af;obtain⟨s,aj,ak⟩:=EU ah;exact⟨j,s,ag,aj,ak⟩
structure DJ(w:World)(b:Nat)(g:Int->Int):Prop where
 ex:∃ks f,BB w b ks f/\∀x,(f x=none/\g x=0)\/((-1000000<=x/\x<=1000000)/\f x=some (.int .i64 (g x)))
section
variable{w w':World}{b:Nat}{g:Int->Int}
theorem DJ.ext(h:DJ w b g)(u:Ae w w'):DJ w' b g:=by obtain⟨E,f,H,J⟩:=h.ex;exact⟨E,f,H.ext u,J⟩
theorem DJ.made(w:Aj):DJ (w.alloc (.map #[] 0)) w λ_=>0:=⟨[],_,BB.made w,λ_=>.inl ⟨rfl,rfl⟩⟩
theorem DJ.run(h:DJ w b g){x:Int}(u:Bj x){y:Int}(E:g x=y):(Instr.lookup 174 (.map (some b)) x false).run prog w=.ok y w:=by obtain⟨U,f,H,J⟩:=h.ex;rw[H.look Hz u];subst E;rcases J x with⟨O,T⟩|⟨_,e⟩;rw[O,T];rfl;rw[e];rfl
theorem DJ.set(h:DJ w b g){x:Int}(O:-1000000<=x/\x<=1000000)(y:Int):∃w',(Instr.mapUpdate 174 (.map (some b)) x y).run prog w=.ok () w'/\DJ w' b (λu=>if u=x then y else g u)/\w.grownBy w' (some b):=by
 obtain⟨T,f,E,H⟩:=h.ex;have U:T.length<=1000000000000000000:=by have:=E.dh (L:=(List.range 2000001).map λk=>((k:Nat):Int)-1000000) (λu J=>by have:=H u;rcases this with⟨e,_⟩|⟨this,_⟩;rw[e]at J;cases J;exact zw.2 ⟨(u+1000000).toNat,zv.2 Ad,Ad⟩);simp at this;omega
 obtain⟨w',V,Z,aa⟩:=E.set Hz U (x:=x) (by unfold Bj;omega) y;refine⟨w',V,⟨_,_,Z,λu=>?_⟩,aa⟩;by_cases e:u=x;subst e;rw[zq rfl,zq rfl];exact .inr ⟨O,rfl⟩;rw[zo e,zo e];exact H u
theorem DJ.keep(h:DJ w b g)(u:w'.heap[b]? =w.heap[b]?):DJ w' b g:=by obtain⟨E,f,H,J⟩:=h.ex;exact⟨E,f,H.keep u,J⟩
theorem DJ.lt(h:DJ w b g):b<w:=let⟨_,_,u,_⟩:=h.ex;u.lt
theorem ID(w:Aj){zf:Array Oper}{rest:List Oper}{o:Oper}{a:Act}{Q:Exit->Act->Aj->Prop}(E:o.guard=none)(m x v:Operand)(H:o.op=Op.mapUpdate 174 m x v) (b:Nat)(g:Int->Int)(J:a.eval m=.map (some b))(O:DJ w b g)(u:Int)(T:a.eval x=u)(U:-1000000<=u/\u<=1000000)(y:Int)(V:a.eval v=y) (Z:∀w',DJ w' b (λt=>if t=u then y else g t)->w.grownBy w' (some b)->wpList prog zf Q rest (a.put o.dst undef) w'):wpList prog zf Q (o::rest) a w:=by refine x5 E λad aa=>?_;obtain⟨w',hrun,ab,ac⟩:=O.set U y;unfold Oper.wp;simp[execOp,H,J,T,V,hrun,Result.andThen];exact aa _ _ (Z w' ab ac)
end
def Ms(g:Int->Int)(x y:Int):Int->Int:=λu=>if u=x then y else g u
def LN(D:Int->Bool)(mk:Nat)(w:Aj):Prop:=∃g,DJ w mk g/\∀x,g x=0\/(g x=1/\D x=true)\/(g x=2/\D x=false)
def Gf(D:Int->Bool)(mk:Nat)(w w':Aj):Prop:=Au (λb=>b=mk) w w'/\(LN D mk w->LN D mk w')
section
variable{D:Int->Bool}{mk:Nat}{w w':World}
theorem LN.ext(h:LN D mk w)(u:Ae w w'):LN D mk w':=by obtain⟨g,E,H⟩:=h;exact⟨g,E.ext u,H⟩
theorem Gf.bT(u:Ae w w'):Gf D mk w w':=⟨u.stay,λh=>h.ext u⟩
theorem Ix:Ht (Gf D mk):=⟨λ_=>⟨Au.refl _ _,id⟩,λh k=>⟨h.1.trans k.1 (λ_ _ h=>h),λg=>k.2 (h.2 g)⟩,λw=>Gf.bT ((Ae.refl w).drew),λh=>h.1.size⟩
structure J4(D:Int->Bool)(w0:Aj)(b3 b4 b5 b7 b8 mk ap p:Nat)(A:AD)(n c:Nat)(zd:An)(w:Aj):Prop where
 ext:Ae w0 w
 aZ:w.cell? b3=some (.pointer ap)
 bB:w.cell? b4=some (.pointer p)
 bt:w.cell? b5=some (.slice A n c)
 bC:w.cell? b7=some (.map (some mk))
 aK:w.cell? b8=some (.func (.func 305) #[] #[.pointer b4,.pointer b7,.pointer b3,.pointer b5,.pointer b8])
 ne:b3≠mk/\b4≠mk/\b5≠mk/\b7≠mk/\b8≠mk
 ge:w0<=mk
 cU:LN D mk w
 aC:AB w0 A n zd
theorem J4.bl{u:Aj}{E H J O T ap p:Nat}{A:AD}{n c:Nat}{zd:An}(h:J4 D u E H J O T mk ap p A n c zd w)(k:Gf D mk w w'):J4 D u E H J O T mk ap p A n c zd w':=by obtain⟨U,V,Z,aa,ab⟩:=h.ne;exact⟨Au.after h.ext k.1 (λb e=>by subst e;exact h.ge),k.1.cell h.aZ U,k.1.cell h.bB V,k.1.cell h.bt Z,k.1.cell h.bC aa,k.1.cell h.aK ab,h.ne,h.ge,k.2 h.cU,h.aC⟩
end
def IF{mk:Nat}{w w':Aj}(h:w.grownBy w' (some mk)):Au (λb=>b=mk) w w':=(Au.refl _ w).grown h (λk e=>by injection e with e;exact .inl e.symm)
def AfP(D:Int->Bool)(mk:Nat)(b:Bool)(w:Aj)(e:Bz)(w':Aj):Prop:=e=.returned b/\Gf D mk w w'
def Af2{w:Aj}{R:List AH}{cl:Int->Option An}{d:Int}(u:Bq R cl d){zd:An}{i:Nat}{r:AH}(hi:R[i]? =some r){e:Bz}{w':Aj}(H:∀x c,cl x=some c->c.length<=1000)(h:Aak (Et R cl (-r.lit)) w e w'):∃v b rest,e=.returned (.tuple #[v,.bool b])/\Ae w w'/\Ay w' w.heap.size v rest/\rest.length<=1000/\(∀x∈rest,∃(j:Nat)(s:AH),j<i/\R[j]? =some s/\s.lit=-x)/\BP R cl zd (-r.lit)=(b&&rest.all (λx=>Bd zd x||BP R cl zd x)):=by
 obtain⟨v,b,rfl,E,J,O⟩:=h;rw[YY u hi];cases e:Et R cl (-r.lit)with
 |none=> obtain⟨rfl,rfl⟩:=O e;exact⟨_,_,[],rfl,E,Ay.nil _ _,AG,AG,rfl⟩
 |some rest=> obtain⟨rfl,T⟩:=J _ e;refine⟨_,_,rest,rfl,E,T,?_,VZ u hi e,by simp⟩;obtain⟨U,V⟩:=JX u hi;by_cases Z:r.reason<0;rw[U Z]at e;cases e;obtain⟨c,aa,ac,ab⟩:=V Ad;rw[ab]at e;injection e with e;subst e;exact z7 (yl _ _) (H _ _ aa)
def Ahb(ad:Aj)(aV ap aW:Nat)(aX:Aw)(aY:Nat)(S:Fb)(za p ao:Nat)(lv aq:Aw)(zb:Nat)(R:List AH)(au:An)(d:Int)(zd:An)(A:AD)(n c:Nat)(aZ a1 a5 a6 a7 mk:Nat)
 (a8:BL ad aV ap aW aX aY S)(ah:Bm ad za p ao lv aq zb R au)(aj:Bq R (AY S.rows) d)(ci:R.length<=100000)(bL:∀r∈R,-1<=r.reason/\r.reason<=Bh):
 ∀(i:Nat)(r:AH)(w:Aj)(ac:Int),R[i]? =some r->(0<=ac/\ac<=1000000)->J4 (BP R (AY S.rows) zd) ad aZ a1 a5 a6 a7 mk ap p A n c zd w->
  AC 305 #[.int .i64 (-r.lit),ac,.pointer a1,.pointer a6,.pointer aZ,.pointer a5,.pointer a7] w
   (AfP (BP R (AY S.rows) zd) mk (decide ((i:Int)<ac)&&BP R (AY S.rows) zd (-r.lit)) w):=by
 intro i
 induction i using Nat.strongRecOn with
 |ind i bM=>
  intro r w ac hi cj V
  have bN:=(zl.1 hi).1
  have a9:Ak (-r.lit)=Ak r.lit:=Bk _
  have aC:=Ip aj.aj hi
  rw[<-a9]at aC
  have Z:=λW(E:Ae ad W)=>NA W za p ao lv aq zb R au (Ak (-r.lit)) (ah.ext E)
  rw[aC]at Z
  have ba:=ah.ok r (zm hi)
  have bO:=AU ba
  obtain⟨x,aD⟩:∃x,-r.lit=x:=⟨_,rfl⟩
  have cm:-100000<=x/\x<=100000:=Ad
  have bP:Bj x:=by unfold Bj;omega
  obtain⟨g,bc,bd⟩:=V.cU
  have aE:=λW(E:Ae ad W)=>YA W aV ap aW aX aY S za p ao lv aq zb R au d i r (a8.ext E) (ah.ext E) aj hi (bL r (zm hi))
  have be:=λx c(h:AY S.rows x=some c)=>show c.length<=1000 by
   have J:BY S.rows x=c:=by rw[Kw,h];rfl
   rw[<-J];exact(Im a8.inv x).2
  have aF:=λW(e:Bz)(W':Aj)=>@Af2 W R (AY S.rows) d aj zd i r hi e W' be
  rw[aD]at aE aF Z⊢
  have aG:=V.aZ
  have av:=V.bB
  have aH:=V.bt
  have ak:=V.bC
  have aI:=V.aK
  have cn:(0:Int)<=(i:Int):=Ad
  have co:(i:Int)<Bh:=Ad
  have bQ:=zk aD
  have bR:=zk hi
  have bS:=Z
  have bT:=aE
  have bU:=aF
  have bV:=bc
  have bW:=bd
  clear Z aE aF bc bd aC a9 ba bO aD be
  go_enter func305,ntmps305
  go_wp2
  refine AL AJ ?_
  have aw:=λW(E:Ae w W)=>E.cell av
  (repeat first|apply Bg rfl (λW E=>Am) Am|apply AS rfl Am)
  apply Bu (λW E=>(BF x W).mono λe w'⟨J,H⟩=>⟨J,H▸Ae.refl W⟩) rfl (λW E=>by go_simp) Am
  (repeat first|apply Bg rfl (λW E=>Am) Am|apply AS rfl Am)
  apply Bu (λW E=>bS W (V.ext.trans E)) rfl (λW E=>by go_simp) Am
  (repeat first|apply Bg rfl (λW E=>Am) Am|apply AS rfl Am)
  refine AN λW O=>?_
  have bf:=V.bl (Gf.bT O)
  have bh:=bV.ext O
  have aG:=O.cell aG
  have av:=O.cell av
  have aH:=O.cell aH
  have ak:=O.cell ak
  have aI:=O.cell aI
  clear aw
  by_cases bi:(i:Int)<ac
  . have cp:=Int.not_le.2 bi
    have cq:¬(i:Int)<0:=Ad
    skip
    have hrun:=λy(h:g x=y)=>bh.run bP h
    rcases bW x with bj|⟨J,aa⟩|⟨H,aa⟩
    . replace hrun:=hrun _ bj
      clear bj
      go_wp2_with fail
      refine(bT _ bf.ext).mono ?_
      intro e w2 bk
      obtain⟨v,b,rest,rfl,aJ,ax,cr,bn,aa⟩:=bU _ _ _ bk
      clear bk hrun
      have bX:∀y∈rest,-100000<=y/\y<=100000:=λy bY=>by
       obtain⟨j,s,J,H,cs⟩:=bn y bY
       have:=AU (ah.ok s (zm H))
       omega
      obtain⟨br,ab,ct,rfl,bt,_⟩:=ax.aQ Ad (λl bZ=>by have:=bX l bZ;omega)
      have b0:=bt.1
      have b1:=bh.lt
      have b2:0<ab->Fa (λb=>b=mk) br:=λcu b3 e hF=>by
       subst e
       obtain⟨g,zh,e,_⟩:=ax.full (λe=>by subst e;simp at b0;omega)
       have aK:=(acy e).1
       injection aK with aK
       subst aK
       have H:=(ax.J g rfl).1
       dsimp only at hF
       omega
      have b4:=bf.bl (Gf.bT aJ)
      have bu:=O.trans aJ
      have al:=zk aa
      clear aG av aH ak aI ax aa b1 aJ
      have cv:(ab:Int)<=1000000:=Ad
      go_wp2
      go_loopw[12,43](λo aL wr=>∃k:Nat,aL=k/\k<=ab/\o=.bool (b&&(rest.take k).all (λx=>Bd zd x||BP R (AY S.rows) zd x))/\Gf (BP R (AY S.rows) zd) mk w2 wr)(λ_ aL _=>ab-(intOf aL).toNat)
      case atStart=>exact⟨0,rfl,zx _,AG,(Ix).refl _⟩
      case round=>
       obtain⟨k,rfl,cx,rfl,ae⟩:=hrel
       have aM:AB wr br ab rest:=bt.cf ae.1 b2
       have U:=b4.bl ae
       skip
       by_cases bw:k<ab
       . obtain⟨b3,y,rfl,bx,cy,cz,cA⟩:=aM.at_ bw
         have bz:=zm bx
         have bA:=AM bx
         obtain⟨j,s,bB,ay,az⟩:=bn y bz
         have aN:=Ip aj.aj ay
         have bC:Ak s.lit=Ak y:=by rw[az];exact Bk y
         rw[bC]at aN
         have Z:=λW(E:Ae ad W)=>NA W za p ao lv aq zb R au (Ak y) (ah.ext E)
         rw[aN]at Z
         have b5:=Z
         have b6:(y==x)=false:=by
          refine yv.2 λe=>?_
          have:=Dk aj.aj ay bR (by rw[az,e,<-bQ.out,aaa])
          omega
         have aO:(b&&(rest.take (k+1)).all (λx=>Bd zd x||BP R (AY S.rows) zd x))=((b&&(rest.take k).all (λx=>Bd zd x||BP R (AY S.rows) zd x))&&(Bd zd y||BP R (AY S.rows) zd y)):=by
          rw[bA,List.all_append,<-Bool.and_assoc];simp
         obtain⟨ok,bD⟩:∃ok,(b&&(rest.take k).all (λx=>Bd zd x||BP R (AY S.rows) zd x))=ok:=⟨_,rfl⟩
         rw[bD]at aO⊢
         have cB:(y !=x)=true:=by rw[bne,b6];rfl
         have cC:(0:Int)<=(k:Int):=Ad
         have cD:(k:Int)<(ab:Int):=Ad
         have b7:(j:Int)<(i:Int):=Ad
         have T:=@Ix (BP R (AY S.rows) zd) mk
         have b8:=λW(E:Gf (BP R (AY S.rows) zd) mk wr W)=>(b5 W (U.bl E).ext).mono λe w'⟨J,H⟩=>And.intro J (Gf.bT (D:=BP R (AY S.rows) zd) (mk:=mk) H)
         have af:=λW(E:Gf (BP R (AY S.rows) zd) mk wr W)=>(EF A n c zd y W ((U.bl E).aC.ext (U.bl E).ext)).mono λe w'⟨J,H⟩=>And.intro J (show Gf (BP R (AY S.rows) zd) mk W w' from H▸T.refl W)
         have aP:=λW(E:Gf (BP R (AY S.rows) zd) mk wr W)=>bM j bB s W (i:Int) ay ⟨Ad,by have:=bN;omega⟩ (U.bl E)
         have bE:-s.lit=y:=by rw[az,aaa]
         simp only[bE,zt b7,abl]at aP
         have bF:=λW(E:Gf (BP R (AY S.rows) zd) mk wr W)=>(U.bl E).bt
         have aw:=λW(E:Gf (BP R (AY S.rows) zd) mk wr W)=>(U.bl E).bB
         have bG:=λW(E:Gf (BP R (AY S.rows) zd) mk wr W)=>(U.bl E).aK
         have b9:=aP
         have bH:=zk aO
         clear bz bA aN bC Z ay az bB aM aP aO bD bE
         cases ok with
         |false=>
          go_wp2
          refine CA T (n:=25) AJ rfl rfl ?_
          simp only[List.take_succ_cons,List.take_zero]
          (repeat first|apply Gv T rfl (λW E=>Am) Am|apply AS rfl Am)
          refine AN λW aQ=>?_
          clear aw bF bG T
          go_wp2
          go_roundw
          case rel=>exact⟨k+1,by go_num,Ad,by rw[bH.out];rfl,Ix.trans ae aQ⟩
          case measure=>simp[intOf];omega
         |true=>
          cases aR:Bd zd y
          all_goals
           replace af:=af
           rw[aR]at af
           replace af:=zk af
           have cc:=zk aR
           clear aR
           go_wp2
           refine CA T (n:=25) AJ rfl rfl ?_
           simp only[List.take_succ_cons,List.take_zero]
           (repeat first|apply Gv T rfl (λW E=>Am) Am|apply AS rfl Am)
           apply Bu (λW E=>af W E) rfl (λW E=>by go_simp) Am
           (repeat first|apply Gv T rfl (λW E=>Am) Am|apply AS rfl Am)
          focus(apply Bu (λW E=>b9 W E) rfl (λW E=>by go_simp) Am)
          rotate_left
          focus
           apply Bu (λW E=>(BF y W).mono λe w'⟨J,H⟩=>⟨J,H▸T.refl W⟩) rfl (λW E=>by go_simp) Am
           (repeat first|apply Gv T rfl (λW E=>Am) Am|apply AS rfl Am)
           apply Bu (λW E=>b8 W E) rfl (λW E=>by go_simp) Am
          all_goals
           (repeat first|apply Gv T rfl (λW E=>Am) Am|apply AS rfl Am)
           refine AN λW aQ=>?_
           clear aw bF bG T
           go_wp2
           go_roundw
           case rel=>exact⟨k+1,by go_num,Ad,by rw[bH.out,cc.out];rfl,Ix.trans ae aQ⟩
           case measure=>simp[intOf];omega
       obtain rfl:k=ab:=Ad
       rw[z1 Ad,<-al.out]
       have ak:=U.bC
       obtain⟨ag,bI,bJ⟩:=U.cU
       have aS:(-1000000<=x/\x<=1000000):=⟨Ad,Ad⟩
       have ce:=U.ne.2.2.2.1
       clear aM bw
       cases aA:BP R (AY S.rows) zd x with
       |false=>
        have am:=zk aA
        clear aA
        go_wp2_with(at_mapUpdate;refine ID _ rfl _ _ _ rfl mk ag rfl bI x rfl aS 2 rfl ?_;intro aT an aB;have aU:DJ aT mk (Ms ag x 2):=an;clear an;skip)
        go_ret
        exact⟨Bo (by rw[am.out,Bool.and_false]),Ix.trans (Gf.bT bu) (Ix.trans ae ⟨IF aB,λ_=>⟨_,aU,λu=>(by
         unfold Ms
         by_cases e:u=x
         rw[zq e,e];exact .inr (.inr ⟨rfl,am⟩)
         rw[zo e];exact bJ u)⟩⟩)⟩
       |true=>
        have am:=zk aA
        clear aA
        go_wp2_with(at_mapUpdate;(first|(refine ID _ rfl _ _ _ rfl mk ag rfl bI x rfl aS 2 rfl ?_;intro aT an aB;have aU:DJ aT mk (Ms ag x 2):=an;clear an;have d7:=(IF aB).cell ak ce;skip)|(refine ID _ rfl _ _ _ rfl mk (Ms ag x 2) rfl aU x rfl aS 1 rfl ?_;intro cf bK cg;have ch:DJ cf mk (Ms (Ms ag x 2) x 1):=bK;clear bK;skip)))
        go_ret
        exact⟨Bo (by have:=bi;rw[am.out,Bool.and_true];simp;omega),Ix.trans (Gf.bT bu) (Ix.trans ae ⟨(IF aB).trans (IF cg) (λ_ _ h=>h),λ_=>⟨_,ch,λu=>(by
         unfold Ms
         by_cases e:u=x
         rw[zq e,e];exact .inr (.inl ⟨rfl,am⟩)
         rw[zo e,zo e];exact bJ u)⟩⟩)⟩
    replace hrun:=hrun _ J
    have al:=zk aa
    clear aa J
    go_wp2
    go_ret
    exact⟨Bo (by have H:=al.out;simp[H]),Gf.bT O⟩
    replace hrun:=hrun _ H
    have al:=zk aa
    clear aa H
    go_wp2
    go_ret
    exact⟨Bo (by have H:=al.out;simp[H]),Gf.bT O⟩
  have cE:ac<=(i:Int):=Ad
  go_wp2
  go_ret
  exact⟨Bo (by rw[zn Ad,ac7]),Gf.bT O⟩
def Aq.newAt(w:Aj)(g:Nat)(E:w=g)(t:TypeId)(u:Ck):Aq (w.alloc (.cells u t)) g t u:=E▸Aq.new w t u
def DJ.eI(w:Aj)(g:Nat)(u:w=g):DJ (w.alloc (.map #[] 0)) g λ_=>0:=u▸DJ.made w
def Ad5(D:Int->Bool)(ap p:Nat)(A:Option Addr)(n c:Nat)(zd:List Int)(w:World)(e:Ending)(w':World):Prop:=∃u E H J O mk,e=.returned (.func (.func 305) #[] #[.pointer (some ⟨E,0,none⟩),.pointer (some ⟨J,0,none⟩),.pointer (some ⟨u,0,none⟩),.pointer (some ⟨H,0,none⟩),.pointer (some ⟨O,0,none⟩)])/\J4 D w u E H J O mk ap p A n c zd w'/\w.heap.size<=u/\w.heap.size<=E/\w.heap.size<=H/\w.heap.size<=J/\w.heap.size<=O
def AgO(D:Int->Bool)(w:Aj)(ap p:Nat)(A:AD)(n c:Nat)(zd:An)(u:AB w A n zd):AC 233 #[.pointer ap,.pointer p,.slice A n c] w (Ad5 D ap p A n c zd w):=by have E:=@run_makeMap prog;skip;go_enter func233,ntmps233;go_wp2;go_ret;refine⟨_,_,_,_,_,w+1+1+1,rfl,⟨by(repeat(first|with_reducible exact Ae.refl _|with_reducible apply Ae.alloc|with_reducible apply Ae.drew|with_reducible apply Ae.drewN|(apply Ae.trans';assumption))),((((((Aq.newAt w _ rfl 169 #[Value.pointer ap]).alloc (.cells #[Value.pointer p] 163)).alloc (.cells #[Value.slice A n c] 86)).alloc (.map #[] 0)).alloc (.cells #[Value.map (some (w+1+1+1))] 174)).alloc (.cells #[Value.func (.func 305) #[] #[Value.pointer (some ⟨w+1,0,none⟩),Value.pointer (some ⟨w+1+1+1+1,0,none⟩),Value.pointer w,Value.pointer (some ⟨w+1+1,0,none⟩),Value.pointer (some ⟨w+1+1+1+1+1,0,none⟩)]] 228)).cell 0,(((((Aq.newAt (w.alloc (.cells #[Value.pointer ap] 169)) (w+1) AG 163 #[Value.pointer p]).alloc (.cells #[Value.slice A n c] 86)).alloc (.map #[] 0)).alloc (.cells #[Value.map (some (w+1+1+1))] 174)).alloc (.cells #[Value.func (.func 305) #[] #[Value.pointer (some ⟨w+1,0,none⟩),Value.pointer (some ⟨w+1+1+1+1,0,none⟩),Value.pointer w,Value.pointer (some ⟨w+1+1,0,none⟩),Value.pointer (some ⟨w+1+1+1+1+1,0,none⟩)]] 228)).cell 0,((((Aq.newAt ((w.alloc (.cells #[Value.pointer ap] 169)).alloc (.cells #[Value.pointer p] 163)) (w+1+1) AG 86 #[Value.slice A n c]).alloc (.map #[] 0)).alloc (.cells #[Value.map (some (w+1+1+1))] 174)).alloc (.cells #[Value.func (.func 305) #[] #[Value.pointer (some ⟨w+1,0,none⟩),Value.pointer (some ⟨w+1+1+1+1,0,none⟩),Value.pointer w,Value.pointer (some ⟨w+1+1,0,none⟩),Value.pointer (some ⟨w+1+1+1+1+1,0,none⟩)]] 228)).cell 0,?_,?_,Ad,Ad,⟨λ_=>0,((DJ.eI (((w.alloc (.cells #[Value.pointer ap] 169)).alloc (.cells #[Value.pointer p] 163)).alloc (.cells #[Value.slice A n c] 86)) (w+1+1+1) AG).ext (w':=_) (by(repeat(first|with_reducible exact Ae.refl _|with_reducible apply Ae.alloc|with_reducible apply Ae.drew|with_reducible apply Ae.drewN|(apply Ae.trans';assumption))))),λ_=>.inl rfl⟩,u⟩,Ad,Ad,Ad,Ad,Ad⟩;exact((Aq.newAt _ (w+1+1+1+1) AG _ _).alloc _).cell 0;exact(Aq.newAt _ (w+1+1+1+1+1) AG _ _).cell 0
def Lk:Enters 235:=by intro args w;go_simp
structure OT(D:Int->Bool)(w0:World)(b3 b4 b5 b7 b8 mk ap p:Nat)(A:Option Addr)(n c:Nat)(zd:List Int)(bd ba many:Nat)(w:World):Prop where
 env:J4 D w0 b3 b4 b5 b7 b8 mk ap p A n c zd w
 dQ:w.cell? ⟨bd,0,none⟩=some (.func (.func 305) #[] #[.pointer (some ⟨b4,0,none⟩),.pointer (some ⟨b7,0,none⟩),.pointer (some ⟨b3,0,none⟩),.pointer (some ⟨b5,0,none⟩),.pointer (some ⟨b8,0,none⟩)])
 dW:w.cell? ⟨ba,0,none⟩=some (.int .i64 many)
 aj:bd≠mk
 ec:ba≠mk
def OT.bl{D:Int->Bool}{u w w':Aj}{E H J O T mk ap p:Nat}{A:AD}{n c:Nat}{zd:An}{U V many:Nat}(h:OT D u E H J O T mk ap p A n c zd U V many w)(k:Gf D mk w w'):OT D u E H J O T mk ap p A n c zd U V many w':=⟨h.env.bl k,k.1.cell h.dQ h.aj,k.1.cell h.dW h.ec,h.aj,h.ec⟩
def OT.ep{D:Int->Bool}{H:Aj}{J O T U V mk ap p:Nat}{A:AD}{n c:Nat}{zd:An}{Z aa many g:Nat}(ac:H<=g)(ad:J≠g)(ae:O≠g)(af:T≠g)(ag:U≠g)(ah:V≠g)(aj:mk≠g)(ak:Z≠g)(al:aa≠g):ML g (OT D H J O T U V mk ap p A n c zd Z aa many):=λW j u h=>by have E:=(Au.refl (λx=>x=g) W).setCell (p:=⟨g,j,none⟩) (.inl rfl) u;refine⟨⟨h.env.ext.setCell ac u,E.cell h.env.aZ ad,E.cell h.env.bB ae,E.cell h.env.bt af,E.cell h.env.bC ag,E.cell h.env.aK ah,h.env.ne,h.env.ge,?_,h.env.aC⟩,E.cell h.dQ ak,E.cell h.dW al,h.aj,h.ec⟩;obtain⟨f,ab,am⟩:=h.env.cU;exact⟨f,ab.keep (E.block mk ab.lt aj),am⟩
def Zk(u:Aj)(ab ap ac:Nat)(ad:Aw)(ae:Nat)(S:Fb)(za p af:Nat)(lv ag:Aw)(zb:Nat)(R:List AH)(ah:An)(d:Int)(zd:An)(A:AD)(n c:Nat)(H J O T U mk V Z:Nat) (aj:BL u ab ap ac ad ae S)(ak:Bm u za p af lv ag zb R ah)(al:Bq R (AY S.rows) d)(ao:R.length<=100000)(am:∀r∈R,-1<=r.reason/\r.reason<=Bh)(x:Int)(i:Nat)(r:AH)(hi:R[i]? =some r)(aq:r.lit=-x)(W:Aj) (E:OT (BP R (AY S.rows) zd) u H J O T U mk ap p A n c zd V Z R.length W):AC 235 #[x,.pointer V,.pointer Z] W λe w'=>e=.returned (.bool (BP R (AY S.rows) zd x))/\OT (BP R (AY S.rows) zd) u H J O T U mk ap p A n c zd V Z R.length w'/\Au (λb=>b=mk) W w':=by
 have aa:=Ahb u ab ap ac ad ae S za p af lv ag zb R ah d zd A n c H J O T U mk aj ak al ao am i r W (R.length:Nat) hi ⟨Ad,Ad⟩ E.env;have av:=(zl.1 hi).1;have e:-r.lit=x:=Ad;rw[e,zt Ad,abl]at aa;have au:=aa;have aw:=E.dQ;have ax:=E.dW;clear aa aj ak al am hi aq e;go_enter func235,ntmps235;go_wp2_with fail
 refine au.mono ?_;rintro e ay⟨rfl,an⟩;skip;go_wp2;go_ret;exact⟨rfl,E.bl an,an.1⟩
def J4.ei{D:Int->Bool}{u E w:Aj}{H J O T U mk ap p:Nat}{A:AD}{n c:Nat}{zd:An}(h:J4 D E H J O T U mk ap p A n c zd w)(V:Ae u E)(Z:AB u A n zd):J4 D u H J O T U mk ap p A n c zd w:=⟨V.trans h.ext,h.aZ,h.bB,h.bt,h.bC,h.aK,h.ne,z7 V.size_le h.ge,h.cU,Z⟩
def Adn(A:AD)(zh:Nat)(F:Nat)(u:Ck)(w:Aj)(hF:Enters F):AC 234 #[.slice A 0 zh,.func (.func F) #[] u] w λe w'=>e=.returned (.slice A 0 zh)/\w'=w:=by
 go_enter func234,ntmps234;go_wp2_with fail
 refine(PL A 0 zh [] (λ_=>false) F u w (λW=>W=w) rfl (λW _=>⟨rfl,Ax,AG,λh=>absurd h Ad⟩) hF (λx E=>by simp at E)).mono ?_;rintro e w'⟨rfl,rfl⟩;have H:CM (λ_:Int=>false) ([]:An)=-1:=rfl;rw[H];go_wp2;go_ret;exact⟨rfl,rfl⟩
def AbU(w:Aj)(aG ap aH:Nat)(aI:Aw)(aJ:Nat)(S:Fb)(za p an:Nat)(lv ao:Aw)(zb:Nat)(R:List AH)(aq:An)(d:Int)(u:Int)(zd:An)(A:AD)(n c:Nat) (a7:BL w aG ap aH aI aJ S)(aK:Bm w za p an lv ao zb R aq)(a8:Bq R (AY S.rows) d)(a9:R.length<=100000)(ba:∀r∈R,-1<=r.reason/\r.reason<=Bh)(Z:AB w A n (u::zd))(bc:∀x∈zd,∃(i:Nat)(r:AH),R[i]? =some r/\r.lit=-x)(bd:zd.length<=100000):AC 148 #[.pointer ap,.pointer p,.slice A n c] w (GX (D9 R (AY S.rows) (u::zd)) w):=by
 have au:=Z.1;rw[List.length_cons]at au;have aL:=Z.2.2.1;skip;go_enter func148,ntmps148;go_wp2_with fail
 refine(Fm A n c (u::zd) w Z Ad).mono ?_;rintro e be⟨v1,rfl,ak,al⟩;obtain⟨g,zh,rfl,bf⟩:=ak.full AG;rw[List.length_cons]at bf;have av:=ak.J g rfl;have aM:=ak;clear ak;have bH:((n:Int)==0)=false:=yv.2 Ad;rw[List.length_cons,au];go_wp2_with fail
 refine(AgO (BP R (AY S.rows) (u::zd)) be ap p A n c (u::zd) (Z.ext al)).mono ?_;rintro e w2⟨aa,ab,ac,ad,ae,mk,rfl,O,bI,bJ,bK,bL,bM⟩;have bN:=O.ge;have bh:=O.ei al Z;have bi:=al.trans O.ext;have aN:=O.ext;obtain⟨bO,aO,bj⟩:=O.cU;have bP:=aO.lt;clear O aO bj;go_wp2_with fail
 have aP:Ae w2 (w2.alloc (.cells #[.func (.func 305) #[] #[.pointer ab,.pointer ad,.pointer aa,.pointer ac,.pointer ae]] 228)):=by grind
 have bk:=Aq.new w2 228 #[.func (.func 305) #[] #[.pointer ab,.pointer ad,.pointer aa,.pointer ac,.pointer ae]];skip;refine(EY _ za p an lv ao zb R aq (aK.ext (bi.trans aP))).mono ?_;rintro e H⟨bQ,rfl,aw,ax⟩;obtain⟨bn,aQ,aR,rfl⟩:=aw.form;have br:aQ=R.length:=by have af:Ve (.slice bn aQ aR)=(Az R).length:=aw.aL;unfold Az at af;rw[z2]at af;exact af
 subst br;have aS:=bk.ext ax;have ay:=aP.trans ax;have bR:=aS.lt;clear aw ax;go_wp2_with fail
 have aT:=Aq.new H 3 #[.int .i64 (R.length:Nat)];have az:Ae H (H.alloc (.cells #[.int .i64 (R.length:Nat)] 3)):=by grind
 have bt:OT (BP R (AY S.rows) (u::zd)) w aa ab ac ad ae mk ap p A n c (u::zd) w2 H R.length (H.alloc (.cells #[.int .i64 (R.length:Nat)] 3)):=⟨bh.bl (Gf.bT (ay.trans az)),(aS.ext az).cell 0,aT.cell 0,Ad,Ad⟩;clear aT;have bS:=aN.size_le;refine Ri 5 AJ AJ AJ AJ AJ AJ ?_;simp only[List.take_succ_cons,List.take_zero,xp,aai];have bT:1<=zh:=Ad;have bU:1<=n:=Ad;have bV:(1:Int)<=(zh:Int):=Ad;have aR:(1:Int)<=(n:Int):=Ad;have bW:(n:Int)<=(zh:Int):=Ad;have bu:=λW(E:Ae (H.alloc (.cells #[.int .i64 (R.length:Nat)] 3)) W)=>bt.bl (Gf.bT E);have aA:=λW(E:Ae (H.alloc (.cells #[.int .i64 (R.length:Nat)] 3)) W)=>aN.trans (ay.trans (az.trans E));skip;have bX:=ay.size_le;by_cases bw:zh=1;focus obtain rfl:zd=[]:=z9 Ad;subst bw;obtain rfl:n=1:=by simpa using au.symm
 rotate_left;focus have bx:zd.length=n-1:=Ad;have aU:1+(zh-1)=zh:=Ad
 all_goals (repeat(first|(apply PU rfl (λW=>Am) Am)|(apply EC rfl Am)));refine Eg λW E aV=>?_
 . have ag:=bu W E;have T:Ay W w (.slice g (1+zd.length) (1+(zh-1))) ([u]++zd):=by rw[aU,ac1 1 zd.length];exact aM.ext (aA W E)
   have aW:=av;have aB:=Xe w g 1 (zh-1) [u] zd (BP R (AY S.rows) (u::zd)) 235 #[.pointer w2,.pointer H] W (OT (BP R (AY S.rows) (u::zd)) w aa ab ac ad ae mk ap p A n c (u::zd) w2 H R.length) (λb=>b=mk) Ad ag rfl T (OT.ep aW.1 Ad Ad Ad Ad Ad Ad Ad Ad) (λx U=>aL x (yj _ U)) Ad Ad Lk (λx U W E=>by obtain⟨i,r,hi,bz⟩:=bc x U;exact Zk w aG ap aH aI aJ S za p an lv ao zb R aq d (u::zd) A n c aa ab ac ad ae mk w2 H a7 aK a8 a9 ba x i r hi bz W E);rw[bx]at aB;have bA:=aB;clear ag T aW aB E aV;go_wp2_with fail
   refine bA.mono ?_;rintro e aX⟨V,rfl,ah,am,ag⟩;rw[aU]at ah;have bB:1+(n-1)=V.length:=ah.aL;obtain⟨J,aj⟩:∃J,zd.filter (λx=>!BP R (AY S.rows) (u::zd) x)=J:=⟨_,rfl⟩;have aY:∀x∈J,-9223372036854775808<=x/\x<=Bh:=λx U=>by rw[<-aj]at U;exact aL x (yj _ (ye.1 U).1)
   have bY:J.length<=100000:=by rw[<-aj];exact z7 (yl _ _) bd
   rw[aj]at am⊢;have T:=ah.cut (k:=1) Ad;have aZ:V.take 1=[u]:=by
    have:V.take 1=(V.take (1+J.length)).take 1:=by rw[abq];congr 1;omega
    rw[this,am];rfl
   rw[aZ]at T;have bC:AB aX (some ⟨g,1,none⟩) J.length J:=⟨rfl,Ad,aY,λ_=>⟨_,rfl,λj x a1=>by
    have bZ:=(zl.1 a1).1;have af:V[1+j]? =some x:=by
     have:(V.take (1+J.length))[1+j]? =some x:=by rw[am,yi AG,List.length_singleton,aaq];exact a1
     rw[xa Ad]at this;exact this
    have e:(⟨g,1,none⟩:Addr).add j=⟨g,1+j,none⟩:=by unfold Addr.add;split<;>simp_all
    rw[e];exact ah.bm af⟩⟩
   have aC:=T;have a5:=ag.env.ext;have bD:=zk aj;clear ah am bB ag aZ T aj aY;go_wp2_with(at_builtin;refine Kg _ rfl (.tmp 32) (.tmp 36) rfl w _ [u] rfl aC _ _ _ J rfl bC Ca a5.size_le ?_;intro bE bF aD aE aF;clear aF)
   refine Qh ?_;go_wp2;go_ret;exact⟨_,rfl,by have h:=aD;rw[<-bD.out]at h;exact h,a5.grown aE (λk e=>by have bG:g=k:=xg e;have:=av;omega)⟩
 . have aC:=(aM.ext (aA W E)).cut (k:=1) AG;have a6:=(al.trans (aA W E));clear E aV;go_wp2_with fail
   refine(Adn g 0 _ _ W Lk).mono ?_;rintro e aX⟨rfl,rfl⟩;go_wp2_with(at_builtin;refine Kg _ rfl (.tmp 32) (.tmp 36) rfl w _ [u] rfl aC _ _ _ [] rfl ⟨rfl,Ax,AG,λh=>absurd h Ad⟩ AG a6.size_le ?_;intro bE bF aD aE aF;clear aF)
   refine Qh ?_;go_wp2;go_ret;exact⟨_,rfl,aD,a6.grown aE (λk e=>by have bG:g=k:=xg e;have:=av;omega)⟩
def UX(w:Aj)(ap p:Nat)(A:AD)(n c:Nat)(E:AB w A n []):AC 148 #[.pointer ap,.pointer p,.slice A n c] w (GX [] w):=by
 obtain rfl:n=0:=E.1.symm;go_enter func148,ntmps148;go_wp2_with fail
 refine(Fm A 0 c [] w E Ad).mono ?_;rintro e T⟨v1,rfl,u,H⟩;obtain⟨U,J,V,rfl⟩:=u.form;obtain rfl:J=0:=u.aL;have O:=u;go_wp2;go_ret;exact⟨_,rfl,O,H⟩
def Vd(w:Aj){zf:Array Oper}{rest:List Oper}{o:Oper}{a:Act}{Q:Exit->Act->Aj->Prop}(O:o.guard=none)(m:Operand)(T:o.op=Op.call {callee:=Callee.builtin Builtin.len,args:=#[m],argTypes:=#[174]}) (b:Nat)(g:Int->Int)(U:a.eval m=.map (some b))(V:DJ w b g)(Z:∀k:Nat,k<=2000001->wpList prog zf Q rest (a.put o.dst k) w):wpList prog zf Q (o::rest) a w:=by
 obtain⟨E,f,H,aa⟩:=V.ex;have ab:E.length<=2000001:=by have:=H.dh (L:=(List.range 2000001).map λk=>((k:Nat):Int)-1000000) (λu J=>by rcases aa u with⟨e,_⟩|⟨this,_⟩;rw[e]at J;cases J;exact zw.2 ⟨(u+1000000).toNat,zv.2 Ad,Ad⟩);simpa using this
 obtain⟨⟨D,ac,ad,af⟩,_⟩:=H;refine wpList_len_own w O m _ T 3 3 underlying174 _ b E.length D U ac ?_;rw[ad];exact Z _ ab
def Aa4{R:List AH}{v:Int}(u:∀r∈R,-1<=r.level/\r.level<=1000000):-1<=AR R v/\AR R v<=1000000:=by
 unfold AR;cases e:DC R v with
 |none=>simp
 |some r=>exact u r (y0 e)
def Ahs(a b:Int)(w:Aj)(e:Bz)(w':Aj):Prop:=∃z:Int,e=.returned z/\a<=z/\z<=b/\Ae w w'
def Adp(w:Aj)(za p T:Nat)(lv U:Aw)(zb:Nat)(R:List AH)(V:An)(A:AD)(n c:Nat)(zd:An)(ac:Bm w za p T lv U zb R V)(ad:∀r∈R,-1<=r.level/\r.level<=1000000)(ae:AB w A n zd)(au:n<=1000000):AC 152 #[.pointer p,.slice A n c] w (Ahs 0 2000001 w):=by
 have av:=@run_makeMap prog;have af:Ae w (w.alloc (.map #[] 0)):=by grind
 skip;go_enter func152,ntmps152;go_wp2;go_loopw[14](λi wr=>∃(k:Nat)(g:Int->Int),i=k/\k<=n/\DJ wr w g/\(∀x,0<=g x/\g x<=k)/\Au (λb=>b=w) (w.alloc (.map #[] 0)) wr)(λi _=>n-(intOf i).toNat);case atStart=>exact⟨0,_,rfl,zx _,(DJ.made w),λ_=>⟨Ad,Ad⟩,Au.refl _ _⟩
 case round=>
  obtain⟨k,g,rfl,aw,Z,u,E⟩:=hrel;have H:=Au.after af E (λb hb=>Ad);have ag:=ae.ext H;by_cases ah:k<n
  . obtain⟨ax,l,rfl,ay,az,aA,aB⟩:=ag.at_ ah;have aj:=Aa4 (v:=Ak l) ad;have aa:=GS wr za p T lv U zb R V (Ak l) (ac.ext H);obtain⟨z,ak⟩:∃z,AR R (Ak l)=z:=⟨_,rfl⟩;rw[ak]at aa aj;have al:=aa;obtain⟨aC,aD⟩:=u z;go_wp2_with(go_at_call 141;refine(BF _ _).mono ?_;rintro e w'⟨rfl,rfl⟩)
    refine al.mono ?_;rintro e w2⟨rfl,J⟩;have O:=Z.ext J;skip;by_cases aE:0<z;have hrun:=O.run (x:=z) (by unfold Bj;omega) (y:=g z) rfl;have am:(-1000000<=z/\z<=1000000):=⟨Ad,Ad⟩;have aF:(n:Int)<=1000000:=Ad;go_wp2_with(at_mapUpdate;refine ID _ rfl _ _ _ rfl w g rfl O z rfl am (g z+1) rfl ?_;intro an ab ao;have aq:DJ an w (Ms g z (g z+1)):=ab;clear ab;skip)
    go_roundw;case rel=>exact⟨k+1,_,by go_num,Ad,aq,λx=>(by unfold Ms;have:=u x;split;omega;omega),(E.aR J).trans (IF ao) (λ_ _ h=>h)⟩
    case measure=>simp[intOf];omega
    . go_wp2;go_roundw;case rel=>exact⟨k+1,g,by go_num,Ad,O,λx=>by have:=u x;omega,E.aR J⟩
      case measure=>simp[intOf];omega
  . obtain rfl:k=n:=Ad;go_wp2_with(at_len;refine Vd _ rfl _ rfl w g rfl Z ?_;intro aG aH;skip)
    go_ret;exact⟨_,rfl,Ad,Ad,H⟩
def D7(R:List AH)(u:Int)(zd:An):Bool:=zd.any λl=>decide (0<CJ R l)&&decide (D4 R (Ak l)=u)
def Re:Enters 314:=by intro args w;go_simp
def Z6(ad w:World)(za p T:Nat)(lv U:Value)(zb:Nat)(R:List AH)(V:List Int)(H l:Int)(ae af:Nat)(Z:Bm ad za p T lv U zb R V)(aa:Ae ad w)(ag:-9223372036854775808<=l/\l<=9223372036854775807) (aq:w.cell? ⟨ae,0,none⟩=some (.pointer (some ⟨p,0,none⟩)))(au:w.cell? ⟨af,0,none⟩=some (.int .i64 H)):Calls prog 314 #[.int .i64 l,.pointer (some ⟨ae,0,none⟩),.pointer (some ⟨af,0,none⟩)] w λe w'=>e=.returned (.bool (decide (0<CJ R l)&&decide (D4 R (Ak l)=H)))/\Ae w w':=by
 have ab:=λ(W:World)(E:Ae w W)=>FW W za p T lv U zb R V l (Z.ext (aa.trans E)) ag.1 ag.2;have ac:=λ(W:World)(E:Ae w W)=>Hl W za p T lv U zb R V (Ak l) (Z.ext (aa.trans E));obtain⟨u,ah⟩:∃u,CJ R l=u:=⟨_,rfl⟩;obtain⟨z,aj⟩:∃z,D4 R (Ak l)=z:=⟨_,rfl⟩;rw[ah]at ab⊢;rw[aj]at ac⊢;have ak:=ab;have av:=ac;have al:=λ(W:World)(E:Ae w W)=>E.cell aq;have am:=λ(W:World)(E:Ae w W)=>E.cell au;clear ab ac ah aj Z aa;by_cases an:0<u
 . by_cases J:z=H;focus have hb:(z==H)=true:=by simpa using J
   rotate_left;focus have hb:(z==H)=false:=by simpa using J
   all_goals have ao:=zk an;skip;go_enter func314,ntmps314;go_wp2;refine AL (by kernel_rfl) ?_;(repeat first|apply Bg rfl (λW E=>by go_simp;rfl) (by go_simp;rfl)|apply AS rfl (by go_simp;rfl));apply Bu (λW E=>ak W E) rfl (λW E=>by go_simp) Am;(repeat first|apply Bg rfl (λW E=>Am) Am|apply AS rfl Am);apply Bu (λW E=>(BF l W).mono λe w'⟨aw,ax⟩=>⟨aw,ax▸Ae.refl W⟩) rfl (λW E=>by go_simp) Am;(repeat first|apply Bg rfl (λW E=>Am) Am|apply AS rfl Am);apply Bu (λW E=>av W E) rfl (λW E=>by go_simp) Am;(repeat first|apply Bg rfl (λW E=>Am) Am|apply AS rfl Am);refine AN λW O=>?_;clear al am;go_wp2;go_ret
   exact⟨Bo (by rw[zt ao.out,zn J];rfl),O⟩;exact⟨Bo (by rw[zt ao.out,zt J];rfl),O⟩
 have ay:decide (0<u)=false:=zn an;have az:=zk ay;go_enter func314,ntmps314;go_wp2;refine AL AJ ?_;(repeat first|apply Bg rfl (λW E=>Am) Am|apply AS rfl Am);apply Bu (λW E=>ak W E) rfl (λW E=>by go_simp) Am;(repeat first|apply Bg rfl (λW E=>Am) Am|apply AS rfl Am);refine AN λW O=>?_;clear al am;go_wp2;go_ret;exact⟨Bo (by rw[az.out];rfl),O⟩
def Aeu(w:Aj)(za p J:Nat)(lv O:Aw)(zb:Nat)(R:List AH)(T:An)(u:Int)(A:AD)(n c:Nat)(zd:An)(Z:Bm w za p J lv O zb R T)(U:AB w A n zd):AC 252 #[.pointer p,u,.slice A n c] w λe w'=>e=.returned (.bool (D7 R u zd))/\Ae w w':=by
 have H:Ae w ((w.alloc (.cells #[.pointer p] 163)).alloc (.cells #[u] 3)):=by grind
 have aa:=I1 A n c zd (λl=>decide (0<CJ R l)&&decide (D4 R (Ak l)=u)) 314 #[.pointer w,.pointer (some ⟨w+1,0,none⟩)] _ (λW=>Ae ((w.alloc (.cells #[.pointer p] 163)).alloc (.cells #[u] 3)) W) (Ae.refl _) (λW E=>U.ext (H.trans E)) Re (λl ab W E=>(Z6 w W za p J lv O zb R T u l _ _ Z (H.trans E) (U.2.2.1 l ab) (E.cell (((Aq.new w 163 #[.pointer p]).alloc (.cells #[u] 3)).cell 0)) (E.cell ((Aq.b0 w (.cells #[.pointer p] 163) 3 #[u]).cell 0))).mono λe w'⟨ac,V⟩=>⟨ac,E.trans V,V⟩);go_enter func252,ntmps252;go_wp2_with fail
 refine aa.mono ?_;rintro e w2⟨rfl,ad⟩;have ae:=H.trans ad;go_wp2;go_ret;exact⟨rfl,ae⟩
section
open Go.Sort
structure BI where
 aP:Int
 aB:Int
 wd:Int
 bD:Bool
 deriving Inhabited
def DR(r:BI):List Aw:=[r.aP,r.aB,r.wd,r.bD]
def C1(r:BI):(DR r).length=4:=rfl
def N5(r:BI):Aw:=.agg #[r.aP,r.aB,r.wd,r.bD]
def XQ(r:BI):Obj:=.cells #[r.aP,r.aB,r.wd,r.bD] 320
def GW(a b:BI):Bool:=if a.aB≠b.aB then decide (b.aB<a.aB)else if a.wd≠b.wd then decide (b.wd<a.wd)else decide (a.aP<b.aP)
def WB(a b:BI)(w:Aj):AC 249 #[N5 a,N5 b] w λe w'=>e=.returned (.bool (GW a b))/\w'=(w.alloc (XQ a)).alloc (XQ b):=by
 obtain⟨T,a2,a3,a4⟩:=a;obtain⟨U,u,E,V⟩:=b;unfold N5 GW XQ;dsimp only;have O:=(Aq.new w 320 #[T,a2,a3,a4]).alloc (.cells #[U,u,E,V] 320);have d0:=Aq.b0 w (.cells #[T,a2,a3,a4] 320) 320 #[U,u,E,V];have ad:=O.cell 0;have ae:=O.cell 1;have af:=O.cell 2;have ag:=d0.cell 0;have ah:=d0.cell 1;have aj:=d0.cell 2;clear O d0;by_cases H:a2=u
 . have Z:(a2 !=u)=false:=by simp[H]
   have aa:(a2==u)=true:=by simp[H]
   subst H;by_cases J:a3=E
   . have ab:(a3 !=E)=false:=by simp[J]
     have ac:(a3==E)=true:=by simp[J]
     subst J;go_enter func249,ntmps249;go_wp2;go_ret;exact⟨Bo AG,rfl⟩
   . have ab:(a3 !=E)=true:=by simp[J]
     have ac:(a3==E)=false:=by simp[J]
     have ak:=zk J;clear J;go_enter func249,ntmps249;go_wp2;go_ret;exact⟨Bo AG,rfl⟩
 have Z:(a2 !=u)=true:=by simp[H]
 have aa:(a2==u)=false:=by simp[H]
 have al:=zk H;clear H;go_enter func249,ntmps249;go_wp2;go_ret;exact⟨Bo AG,rfl⟩
def Cn(r:BI):Bool:=r.bD||decide (r.aB<=2)
def Rc:Enters 248:=by intro args w;go_simp
def Sd(r:BI)(w:Aj):AC 244 #[N5 r] w λe w'=>e=.returned (.bool (Cn r))/\Ae w w':=by
 obtain⟨u,a2,a3,a4⟩:=r;unfold N5 Cn;dsimp only;have H:=Aq.new w 320 #[u,a2,a3,a4];have E:Hid (Ae w (w.alloc (.cells #[u,a2,a3,a4] 320))):=by unfold Hid;grind
 cases a4;all_goals go_enter func244,ntmps244;go_wp2;go_ret;exact⟨rfl,E⟩
end
section
open Go.Maps Go.Shelf Go.Sort
def WH(a b:BI):Int:=if GW a b then-1 else if GW b a then 1 else 0
def AhR(a b:BI):ltOf WH a b=GW a b:=by unfold ltOf WH;cases u:GW a b;cases E:GW b a<;>simp;simp
def NH(a b:BI):GW a b=true↔(b.aB<a.aB\/(a.aB=b.aB/\(b.wd<a.wd\/(a.wd=b.wd/\a.aP<b.aP)))):=by unfold GW;split;rw[z8];omega;split<;>rw[z8]<;>omega
def AiX:SWO (ltOf WH)where
 irrefl x:=by rw[AhR,<-Bool.not_eq_true,NH];omega
 trans x y z u E:=by rw[AhR,NH]at *;omega
 ntrans x y z u E:=by rw[AhR,<-Bool.not_eq_true,NH]at *;omega
def AbB(a b:BI)(w:Aj):AC 248 #[N5 a,N5 b] w λe w'=>e=.returned (WH a b)/\∃os,w'=grow w os:=by
 have Z:=λ(W:Aj)=>WB a b W;have aa:=λ(W:Aj)=>WB b a W;obtain⟨H,a2,a3,a4⟩:=a;obtain⟨J,O,T,U⟩:=b;unfold WH;generalize GW ⟨H,a2,a3,a4⟩ ⟨J,O,T,U⟩=u at *;generalize GW ⟨J,O,T,U⟩ ⟨H,a2,a3,a4⟩=v at *;unfold N5 XQ at *;dsimp only at *;have ab:=Z;have ad:=aa;clear Z aa;have E:=(Aq.new w 320 #[H,a2,a3,a4]).alloc (.cells #[J,O,T,U] 320);have d0:=Aq.b0 w (.cells #[H,a2,a3,a4] 320) 320 #[J,O,T,U];have ae:=E.cell 0;have af:=E.cell 1;have ag:=E.cell 2;have ah:=E.cell 3;have aj:=d0.cell 0;have ak:=d0.cell 1;have al:=d0.cell 2;have am:=d0.cell 3;cases u with
 |true=>
  clear E d0;go_enter func248,ntmps248;go_wp2_with fail
  refine(ab _).mono ?_;rintro e ac⟨rfl,rfl⟩;go_wp2;go_ret;exact⟨rfl,_,by simp only[alloc_eq_grow,grow_grow];rfl⟩
 |false=>
  have f0:=((E.alloc (.cells #[H,a2,a3,a4] 320)).alloc (.cells #[J,O,T,U] 320));have V:=((d0.alloc (.cells #[H,a2,a3,a4] 320)).alloc (.cells #[J,O,T,U] 320));have an:=f0.cell 0;have ao:=f0.cell 1;have aq:=f0.cell 2;have au:=f0.cell 3;have av:=V.cell 0;have aw:=V.cell 1;have ax:=V.cell 2;have ay:=V.cell 3;clear E d0 f0 V;cases v;all_goals
   go_enter func248,ntmps248;go_wp2_with fail
   refine(ab _).mono ?_;rintro e ac⟨rfl,rfl⟩;go_wp2_with fail
   refine(ad _).mono ?_;rintro e ac⟨rfl,rfl⟩;go_wp2;go_ret;exact⟨rfl,_,by simp only[alloc_eq_grow,grow_grow];rfl⟩
end
section
open Go.Maps Go.Shelf Go.Sort
def Ahj:LF 260 320 (.agg #[(),(),(),false]) 4 32:=⟨underlying260,AJ,rfl,Ax,Ax⟩
def D8(w:Aj)(b:Nat)(v:Aw)(zc:List BI):Prop:=AP w b 320 4 v zc.length (zc.flatMap DR)
def NR(r:BI):∀v∈DR r,v.oneCell'=true:=by intro v u;simp[DR]at u;rcases u with rfl|rfl|rfl|rfl<;>rfl
def Qw(zc:List BI):(flatK DR 4 zc.toArray)=(zc.flatMap DR).toArray:=by
 apply acp;rw[size_flatK];simp[BZ C1];intro t u V;rw[size_flatK]at u;simp only[List.size_toArray]at u;have E:=get_flatK DR 4 zc.toArray t (by simpa using u);have J:t/4<zc.length:=adq Ad;have T:zc[t/4]? =some zc[t/4]:=zr J;have H:=D2 C1 T (k:=t%4) (Nat.mod_lt _ Ax);have e:t/4*4+t%4=t:=Ad;rw[e]at H;have U:(DR zc.toArray[t/4]!)=DR zc[t/4]:=by rw[getElem!_pos zc.toArray (t/4) (by simpa using J)];simp
 rw[U]at E;have O:t%4<(DR zc[t/4]).length:=by rw[C1];omega
 rw[getElem!_pos _ t (by rw[size_flatK];simpa using u),getElem!_pos _ (t%4) O]at E;rw[E];rw[zr O]at H;simp only[List.getElem_toArray];exact(zl.1 H).2.symm
def AaS{w:Aj}{g:Nat}{E:Ck}{e:TypeId}{u:List Aw}(hb:w.heap[g]? =some (.cells E e (0,0)))(O:E.toList.take u.length=u):Holds (id:Aw->Aw) w g 0 u.toArray:=by
 intro j T;have H:j<u.length:=by simpa using T
 refine⟨?_,by simp[World.frozen?,hb]⟩;have J:(E.toList.take u.length)[j]? =u[j]?:=by rw[O]
 rw[xa H]at J;simp only[World.cell?,hb,xv];simp only[Option.isSome_none,acf,if_false];rw[<-ack,J];simp[H]
def Ue{w:Aj}{g n:Nat}{os:Array Obj}{u:Ck}{e:TypeId}{E:Nat×Nat}(d:Ck)(hb:w.heap[g]? =some (.cells u e E)):(grow (putRow id (Sort.ahead w n) g 0 d) os).heap[g]? =some (.cells (putCells id 0 d u) e E):=by rw[heap_grow_old _ _ (by simpa using(z6.1 hb).1)];simp[putRow,mapBlock,Sort.ahead,Array.getElem?_modify,hb,onCells]
def P4{w:Aj}{g n:Nat}{os:Array Obj}(d:Ck):w.grownBy (grow (putRow id (Sort.ahead w n) g 0 d) os) (some g):=by refine⟨rfl,rfl,rfl,AG,λk u E=>?_⟩;rw[heap_grow_old _ _ (by simpa using u)];have:g≠k:=λe=>E (by rw[e]);simp[putRow,mapBlock,Sort.ahead,Array.getElem?_modify,this]
def QR(u:Ck)(ts:List Aw)(h:ts.length<=u.size):(putCells id 0 ts.toArray u).toList.take ts.length=ts:=by apply ac9;intro j;by_cases E:j<ts.length;rw[xa E,ack];simp[putCells,E,show j<u.size by omega];rw[List.getElem?_take_eq_none Ad,acm Ad]
def Vs{d d':Array BI}(h:PermIn 0 d.size d d'):d'.toList.Perm d.toList:=by
 obtain⟨u,_,E⟩:=h;have H:d'.extract 0 d.size=d':=by rw[<-u];exact ac6
 have J:d.extract 0 d.size=d:=ac6;rwa[H,J]at E
def Aal(w:Aj)(za:Nat)(A:AD)(n c:Nat)(zc:List BI)(h:D8 w za (.slice A n c) zc)(aq:zc.length<=1000000):AC 247 #[.slice A n c,.func (.func 248) #[] #[]] w λe w'=>e=.returned (.tuple #[])/\∃V,D8 w' za (.slice A n c) V/\V.Perm zc/\w.grownBy w' (Value.slice A n c).ownBlock:=by
 rcases h.2 with⟨e,ac⟩|⟨E,zh,ad,e,ae,H,af,ag,Z,ah⟩;have aj:=z9 ac;subst aj;injection e with J O T;subst J O T;refine adl (show AC 247 _ _ _ from(AnyF.slices_SortFunc_none (P:=prog) (ρ:=sortRA_ren) {sortRA with} none 0 (.func (.func 248) #[] #[]) w)) ?_;rintro e w'⟨rfl,rfl⟩;exact⟨rfl,[],h,abb _,aay _ _⟩;injection e with J O T;subst J O T;have ak:HoldsK DR 4 w E 0 zc.toArray:=by unfold HoldsK;rw[Qw];exact AaS H (by rw[(BZ C1 zc)];exact ah)
 have aa:=AnyQ.slices_SortFunc sortRA 4 (λw=>by rfl) (λw=>by rfl) DR C1 NR WH AiX 248 #[] E 0 c zc.toArray w Rc (λm os dk _ x y=>(AbB x y _).mono λe w'⟨al,am,an⟩=>⟨al,0,am,an⟩) ak (z6.1 H).1 Ca;rw[show zc.toArray.size=zc.length by simp]at aa;refine aa.mono ?_;rintro e w'⟨rfl,d',q,os,ao,_,rfl⟩;have ab:d'.toList.Perm zc:=by have:=Vs (d:=zc.toArray) (d':=d') (by simpa using ao);simpa using this
 have u:=ab.length_eq;have U:=BZ C1 d'.toList;unfold sortWorldK putRowK;have e:d'=d'.toList.toArray:=AG;rw[e,Qw];refine⟨rfl,d'.toList,?_,ab,P4 _⟩;unfold D8 AP;rw[u];exact⟨by rw[U,u],.inr ⟨E,c,_,rfl,ae,Ue _ H,af,ag,by simp[putCells,Z],by rw[<-u,<-U];exact QR ad _ (by rw[U,u,Z];omega)⟩⟩
end
def EJ(w:Aj)(e:TypeId)(size:Nat):AP (w.alloc (.cells #[] e)) w e size (.slice w 0 0) 0 []:=⟨AG,Or.inr ⟨w,0,#[],rfl,zs _,aaf w _,zs _,Ax,AG,AG⟩⟩
def Af6(zc:List BI)(w:Aj)(e:Bz)(w':Aj):Prop:=∃v,e=.returned v/\D8 w' w v zc/\Ae w w'
def Np(A:AD)(n c:Nat)(w:Aj):(binOp .eql 260 (.slice A n c) AI).run prog w=.ok A.isNone w:=by simp only[binOp];simp[run_equal_slice_nil w 260 320 A n c underlying260]
def ZU(zc:List BI):∀u∈zc.flatMap DR,u.oneCell'=true:=by intro u E;obtain⟨r,_,h⟩:=yk.1 E;exact NR r u h
def AcI(A:AD)(n c:Nat)(zc:List BI)(w:Aj)(h:BA w A n 4 (zc.flatMap DR))(ad:n<=1000000):AC 246 #[.slice A n c] w (Af6 zc w):=by
 have u:zc.length=n:=by have:=h.1;rw[BZ C1]at this;omega
 cases A with
 |none=>
  have O:n=0:=by rcases xe n with e|e;exact e;obtain⟨E,e,_⟩:=h.2.2 e;cases e
  subst O;have T:=z9 u;subst T;have U:=λ(c:Nat)(W:Aj)=>Np none 0 c W;go_enter func246,ntmps246;go_wp2;go_ret;exact⟨_,rfl,AP.nil _ _ _ _,Ae.refl _⟩
 |some E=>
  have U:=λ(W:Aj)=>Np (some E) n c W;have H:=ZU zc;have V:=zk H;clear H;go_enter func246,ntmps246;go_wp2_with(at_builtin;refine D6 Ahj _ rfl (.tmp 5) (.tmp 6) rfl w _ 0 [] rfl (EJ w 320 4) _ _ _ (zc.flatMap DR) rfl (h.ext ((Ae.refl _).alloc _)) V.out Ad AG ?_;intro ae af Z J aa;clear aa;have ab:=Ae.grown ((Ae.refl _).alloc _) J (λj ac=>by have:=(EJ w 320 4).J j ac;omega);clear J)
  go_ret;refine⟨_,rfl,?_,ab⟩;have:=Z;rw[List.nil_append,xv,<-u]at this;exact this
def Yf{w:Aj}{A:AD}{n k:Nat}{zc:List BI}(h:BA w A n 4 (zc.flatMap DR))(U:k<n):∃E r,A=some E/\zc[k]? =some r/\∀j u,(DR r)[j]? =some u->w.cell? (E.add (k*4+j))=some u:=by
 obtain⟨E,e,O⟩:=h.2.2 Ad;have V:zc.length=n:=by have:=h.1;rw[BZ C1]at this;omega
 have H:zc[k]? =some zc[k]:=zr Ad;refine⟨E,zc[k],e,H,λj u J=>O _ u ?_⟩;have T:j<4:=by have:=(zl.1 J).1;rw[C1]at this;exact this
 rw[D2 C1 H T];exact J
def Ou{w:World}{A:Option Addr}{n k:Nat}{zc:List BI}(h:BA w A n 4 (zc.flatMap DR))(J:k<n):∃u E a2 a3 a4,A=some u/\zc[k]? =some ⟨E,a2,a3,a4⟩/\w.cell? (u.add (k*4))=some (.int .i64 E)/\w.cell? ⟨(u.add (k*4)).block,(u.add (k*4)).off+1,none⟩=some (.int .i64 a2)/\w.cell? ⟨(u.add (k*4)).block,(u.add (k*4)).off+2,none⟩=some (.int .i64 a3)/\w.cell? ⟨(u.add (k*4)).block,(u.add (k*4)).off+3,none⟩=some (.bool a4):=by
 obtain⟨u,r,rfl,O,H⟩:=Yf h J;obtain⟨E,a2,a3,a4⟩:=r;have e:∀j:Nat,j≠0->u.add (k*4+j)=⟨(u.add (k*4)).block,(u.add (k*4)).off+j,none⟩:=λj T=>by rw[<-abe];generalize u.add (k*4)=b;unfold Addr.add;rw[zo T]
 refine⟨u,E,a2,a3,a4,rfl,O,H 0 _ rfl,?_,?_,?_⟩;rw[<-e 1 (by decide)];exact H 1 _ rfl;rw[<-e 2 Ax];exact H 2 _ rfl;rw[<-e 3 Ax];exact H 3 _ rfl
def Ag2(A:AD)(n c:Nat)(zc:List BI)(w:Aj)(V:BA w A n 4 (zc.flatMap DR))(am:n<=1000000):AC 312 #[.slice A n c,.func (.func 244) #[] #[]] w λe w'=>(∃z:Int,e=.returned z/\((z=-1/\∀r∈zc,Cn r=false)\/∃(k:Nat)(r:BI),z=k/\zc[k]? =some r/\Cn r=true/\∀y∈zc.take k,Cn y=false))/\Ae w w':=by
 have an:zc.length=n:=by have:=V.1;rw[BZ C1]at this;omega
 skip;go_enter func312,ntmps312;go_wp2;go_loopw[8](λi wr=>∃k:Nat,k<=n/\i=k/\(∀y∈zc.take k,Cn y=false)/\Ae w wr)(λi _=>n-(intOf i).toNat);case atStart=>exact⟨0,zx _,rfl,AG,Ae.refl _⟩
 case round=>
  obtain⟨k,ao,rfl,Z,J⟩:=hrel;have O:=zk Z;by_cases af:k<n;obtain⟨aq,aa,a2,a3,a4,rfl,H,ag,ah,aj,ak⟩:=Ou (V.ext J) af;have au:(0:Int)<=(k:Int):=Ad;have av:(k:Int)<(n:Int):=Ad;have ab:=zk H;have T:=λ(W:Aj)=>Sd ⟨aa,a2,a3,a4⟩ W;obtain⟨u,U⟩:∃u,Cn ⟨aa,a2,a3,a4⟩=u:=⟨_,rfl⟩;rw[U]at T;have al:=T;have ac:=zk U;clear Z H T U;go_wp2_with fail
  refine(al _).mono ?_;rintro e w'⟨rfl,ad⟩;have ae:=J.trans ad;clear ad ag ah aj ak;cases u with
  |true=> go_wp2;go_ret;exact⟨⟨_,rfl,.inr ⟨k,_,rfl,ab,ac,O⟩⟩,ae⟩
  |false=>
   go_wp2;go_roundw;case rel=>exact⟨k+1,Ad,by go_num,λy E=>(by rw[AM ab]at E;rcases zz.1 E with E|E;exact O y E;rw[zy.1 E];exact ac),ae⟩
   case measure=>simp[intOf];omega
  obtain rfl:k=n:=Ad;go_wp2;go_ret;refine⟨⟨_,rfl,.inl ⟨rfl,λr H=>O r ?_⟩⟩,J⟩;rw[z1 Ad];exact H
def Ace{H:Type}{enc:H->List Aw}{s n:Nat}(J:∀r,(enc r).length=s){u:List H}(V:u.length=n){xs:List Aw}(aa:xs.length=n*s)(h:∀i k,i<n->k<s->∀p,u[i]? =some p->xs[i*s+k]? =(enc p)[k]?):xs=u.flatMap enc:=by
 apply ac9;intro j;by_cases O:j<n*s;have Z:0<s:=by rcases xe s with E|E;(rw[E]at O;omega);exact E
 have hi:=adq (by rw[adk];exact O);have T:j%s<s:=Nat.mod_lt _ Z;have e:j=(j/s)*s+j%s:=by rw[adk];exact(Nat.div_add_mod j s).symm
 have U:u[j/s]? =some u[j/s]:=zr Ad;rw[e,h _ _ hi T _ U,D2 J U T];rw[acm Ad,acm (by rw[BZ J,V];omega)]
def D8.db{w:Aj}{b n c:Nat}{A:AD}{zc:List BI}(h:D8 w b (.slice A n c) zc)(T:zc.length<=1000000):n=zc.length/\BA w A n 4 (zc.flatMap DR)/\n<=c:=by obtain⟨A',c',e,u,E⟩:=AP.aC h Ad;injection e with H J O;subst H J O;exact⟨rfl,u,E⟩
def D8.et{w:Aj}{b g n zh k:Nat}{L:List BI}{r:BI}(h:D8 w b (.slice g n zh) L)(aa:k<L.length):D8 ((((w.setCell ⟨g,k*4,none⟩ r.aP).setCell ⟨g,k*4+1,none⟩ r.aB).setCell ⟨g,k*4+2,none⟩ r.wd).setCell ⟨g,k*4+3,none⟩ r.bD) b (.slice g n zh) (L.set k r):=by
 have J:n=L.length:=by rcases h.2 with⟨e,_⟩|⟨_,_,_,e,_⟩;cases e;injection e
 subst J;have O:=(abh h (k*4) r.aP).1;have T:=(abh O (k*4+1) r.aB).1;have U:=(abh T (k*4+2) r.wd).1;have V:=(abh U (k*4+3) r.bD).1;unfold D8 AP;rw[xj];have e:((((L.flatMap DR).set (k*4) r.aP).set (k*4+1) r.aB).set (k*4+2) r.wd).set (k*4+3) r.bD=(L.set k r).flatMap DR:=by have E:=BZ C1 L;refine Ace C1 (n:=L.length) AG (by simp[E]) λi j hi Z p u=>?_;by_cases H:i=k;subst H;rw[x4 Ad]at u;cases u;rcases(show j=0\/j=1\/j=2\/j=3 by omega)with rfl|rfl|rfl|rfl<;>simp[DR,List.getElem?_set,E]<;>omega;rw[y3 (yb H)]at u;rw[y3 Ad,y3 Ad,y3 Ad,y3 Ad];exact D2 C1 u Z
 rw[<-e];exact V
def AP.eY{w:Aj}{b g n zh k s:Nat}{e:TypeId}{H:List Aw}(h:AP w b e s (.slice g n zh) n H)(J:k<=n):AP w b e s (.slice g k zh) k (H.take (k*s)):=by have ac:=acq s J;refine⟨by rw[ya,h.1];omega,?_⟩;rcases h.2 with⟨E,_⟩|⟨ad,ae,O,E,T,U,af,V,Z,aa⟩;cases E;injection E with u ag ab;injection u with u;injection u with u;subst u ab;refine .inr ⟨g,zh,O,rfl,T,U,Ad,V,Z,?_⟩;rw[<-aa,abq];congr 1;omega
def AP.dH{b g n zh s:Nat}{e:TypeId}:∀(vs:List Aw)(o:Nat)(E:List Aw)(w:Aj),AP w b e s (.slice g n zh) n E->∃u,AP (w.setCells g o vs) b e s (.slice g n zh) n u/\u.take o=E.take o
 |[],o,E,w,h=>⟨E,h,rfl⟩
 |v::vs,o,E,w,h=>by
  obtain⟨u,H,J⟩:=AP.dH vs (o+1) _ _ (abh h o v).1;refine⟨u,H,?_⟩;have:u.take o=(u.take (o+1)).take o:=by rw[abq];congr 1;omega
  rw[this,J,abq,show min o (o+1)=o by omega,acv (zs _)]
def Qc(n:Nat):List Aw:=(Builtin.zeroCells #[(),(),(),false] n).toList
def WR(n:Nat):(Qc n).length=n*4:=by simp[Qc,Builtin.zeroCells]
def Ac6(n:Nat):∀v∈Qc n,v.oneCell'=true:=by intro v u;unfold Qc Builtin.zeroCells at u;simp only[Array.toList_map,zw]at u;obtain⟨i,_,rfl⟩:=u;rcases(show i%4=0\/i%4=1\/i%4=2\/i%4=3 by omega)with h|h|h|h<;>(simp[h];rfl)
def Zj(w:Aj)(E:TypeId)(b o n c:Nat)(T:0<n)(H:∀j,j<n*4->(w.cell? ⟨b,o+j,none⟩).isSome=true)(J:∀j,j<n*4->w.frozen? ⟨b,o+j,none⟩=false):(Builtin.clear_ #[260] E #[.slice (some ⟨b,o,none⟩) n c]).run prog w=.ok (.tuple #[]) (w.setCells b o (Qc n)):=by have u:=run_storeCells_cells (P:=prog) b o (Qc n) 0 w (by rw[WR];simpa using H) (by rw[WR];simpa using J) (Ac6 n);simp only[Nat.add_zero]at u;obtain⟨m,rfl⟩:∃m,n=m+1:=⟨n-1,Ad⟩;have O:(Builtin.zeroCells (Value.agg #[(),(),(),false]).cells (m+1)).toList=Qc (m+1):=rfl;simp[Builtin.clear_,run_underlying underlying260,O,u]
def NN{xs:List BI}{k:Nat}{x:BI}(h:xs[k]? =some x):(xs.take (k+1)).filter (λx=>!Cn x)=(xs.take k).filter (λx=>!Cn x)++if Cn x then[]else[x]:=by rw[AM h,y5];congr 1;cases h:Cn x<;>simp[h]
def D8.ext{w w':Aj}{b:Nat}{v:Aw}{zc:List BI}(h:D8 w b v zc)(u:Ae w w'):D8 w' b v zc:=AP.ext h u
def D8.c5{w:Aj}{b g n zh:Nat}{H:List BI}(h:D8 w b (.slice g n zh) H)(j:Nat):w.frozen? ⟨g,j,none⟩=false:=by rcases h.2 with⟨E,_⟩|⟨O,T,U,E,V,J,_⟩;cases E;injection E with u Z aa;injection u with u;injection u with u;subst u;simp[World.frozen?,J]
def AfN(u:Aj)(za:Nat)(A:AD)(zh:Nat)(E:List BI)(e:Bz)(w':Aj):Prop:=(∃m,e=.returned (.slice A m zh)/\D8 w' za (.slice A m zh) E)/\Ae u w'
def Ah6(ab:Aj)(za:Nat)(A:AD)(n zh:Nat)(zc:List BI)(w:Aj)(ah:ab<=za)(bw:Ae ab w)(aK:D8 w za (.slice A n zh) zc)(aL:zc.length<=1000000):AC 245 #[.slice A n zh,.func (.func 244) #[] #[]] w (AfN ab za A zh (zc.filter λr=>!Cn r)):=by
 obtain⟨bx,aM,bz⟩:=aK.db aL;have bA:=Ag2 A n zh zc w aM Ad;clear aM;subst bx;go_enter func245,ntmps245;go_wp2_with fail
 refine bA.mono ?_;rintro e bV⟨⟨z,rfl,ac⟩,aw⟩;have ax:=aK.ext aw;have aN:=bw.trans aw;clear aw;rcases ac with⟨rfl,aO⟩|⟨O,aP,rfl,aj,aQ,aR⟩
 . have bB:=zk aO;clear aO;go_wp2;go_ret;refine⟨⟨_,rfl,?_⟩,aN⟩;have e:zc.filter (λr=>!Cn r)=zc:=by rw[x9];intro r U;rw[bB r U];rfl
   rw[e];exact ax
 . have bC:=(zl.1 aj).1;have aS:(zc.take (O+1)).filter (λx=>!Cn x)++[aP]++zc.drop (O+1)=zc/\((zc.take (O+1)).filter (λx=>!Cn x)).length=O:=by
    have bD:(zc.take O).filter (λx=>!Cn x)=zc.take O:=by rw[x9];intro r U;rw[aR r U];rfl
    rw[NN aj,aQ,bD];refine⟨?_,Ca⟩;simp only[if_true,yg];rw[<-AM aj,xt]
   obtain⟨g,bW,bE,aT,_,ak⟩:=AP.full ax Ad;injection bE with hA1 hA2 hA3;subst hA1 hA3;clear hA2;have aU:=zk aS;have bF:(0:Int)<=(O:Int):=Ad;have bG:(O:Int)<(zc.length:Int):=Ad;have bH:((O:Int)==-1)=false:=yv.2 Ad;have bX:(zc.length:Int)<=1000000:=Ad;clear aS aj aQ aR;go_wp2;go_loopw[5,6](λi j wr=>∃(E H:Nat)(J:List BI),i=E/\j=H/\H<=zc.length/\E<H/\Ae ab wr/\D8 wr za (.slice g zc.length zh) ((zc.take H).filter (λx=>!Cn x)++J++zc.drop H)/\((zc.take H).filter (λx=>!Cn x)).length=E/\E+J.length=H)(λ_ j _=>zc.length-(intOf j).toNat);case atStart=>exact⟨O,O+1,[aP],rfl,by go_num,Ad,Ad,aN,by rw[aU.1];exact ax,aU.2,rfl⟩
   case round=>
    clear bF bG bH bC;obtain⟨E,H,J,rfl,rfl,aV,ay,aW,az,ad,al⟩:=hrel;have am:=zk ad;have aA:=zk al;by_cases ae:H<zc.length
    . obtain⟨y,an⟩:∃y,zc[H]? =some y:=⟨_,zr ae⟩;obtain⟨aX,ao,aY⟩:∃aX ao,J=aX::ao:=by
       cases J with
       |nil=>simp at al;omega
       |cons a t=>exact⟨a,t,rfl⟩
      have aZ:((zc.take H).filter (λx=>!Cn x)++J++zc.drop H).length=zc.length:=by simp only[zu,List.length_drop];omega
      have a1:((zc.take H).filter (λx=>!Cn x)++J++zc.drop H)[H]? =some y:=by rw[yi (by rw[zu];omega)];rw[aaj,zu];rw[show H+(H-((List.filter (λx=>!Cn x) (List.take H zc)).length+J.length))=H by omega];exact an
      have a5:=(az.db Ad).2.1;obtain⟨bI,T,a2,a3,a4,Z,U,a6,aa,af,aB⟩:=Ou a5 ae;injection Z with Z;subst Z;rw[a1]at U;injection U with U;subst U;rw[S7]at a6 aa af aB;dsimp only at aa af aB;have aC:=λ(W:Aj)=>Sd ⟨T,a2,a3,a4⟩ W;obtain⟨u,aD⟩:∃u,Cn ⟨T,a2,a3,a4⟩=u:=⟨_,rfl⟩;rw[aD]at aC;have aE:=NN an;rw[aD]at aE;have a7:zc.drop H=⟨T,a2,a3,a4⟩::zc.drop (H+1):=by obtain⟨bJ,bK⟩:=zl.1 an;rw[y8 bJ,bK]
      have bL:=aC;have aq:=zk aE;have a8:=zk a7;have a9:=zk aY;have ba:=zk aZ;have bY:=aT;have bM:=zk ah;have bc:=zk ae;have bZ:=zk ay;have b0:(0:Int)<=(H:Int):=Ad;have b1:(H:Int)<(zc.length:Int):=Ad;have bN:(0:Int)<=(E:Int):=Ad;have bO:(E:Int)<(zc.length:Int):=Ad;clear ad al an a1 a5 aC aD aE a7 aY aZ aV aT ah bz ak ae ay;have bP:=Aq.new wr 320 #[T,a2,a3,a4];have bd:Ae wr (wr.alloc (.cells #[T,a2,a3,a4] 320)):=by grind
      skip;go_wp2_with fail
      refine(bL _).mono ?_;rintro e w2⟨rfl,au⟩;have ag:=bP.ext au;have d0:=ag.cell 0;have d1:=ag.cell 1;have d2:=ag.cell 2;have d3:=ag.cell 3;have V:=D8.ext az (bd.trans au);have aF:=(V.db (by have:=ba.out;have:=aL;omega)).2.1;have be:=aW.trans (bd.trans au);clear au ag a6 aa af aB;cases u with
      |true=>
       clear aF;go_wp2;go_roundw;case rel=>
        refine⟨E,H+1,J++[⟨T,a2,a3,a4⟩],rfl,by go_num,Ad,by have:=aA.out;omega,be,?_,?_,by have:=aA.out;simp;omega⟩
        . rw[aq.out];have:=V;rw[a8.out]at this;simpa using this
        . rw[aq.out];simpa using am.out
       case measure=>have:=bc.out;simp[intOf];omega
      |false=>
       obtain⟨bI,b2,b3,b4,b5,Z,ac,bQ,bf,bh,bi⟩:=Ou aF (k:=E) Ad;injection Z with Z;subst Z;rw[S7]at bQ bf bh bi;dsimp only at bf bh bi;have f0:=V.c5 (E*4);have f1:=V.c5 (E*4+1);have f2:=V.c5 (E*4+2);have f3:=V.c5 (E*4+3);clear ac aF;go_wp2;go_roundw;case rel=>
        have ak:=(AP.J V g rfl).1;have ah:=bM.out;have aa:=aA.out;have af:=a9.out;rw[af]at aa;simp at aa;refine⟨E+1,H+1,ao++[⟨T,a2,a3,a4⟩],by go_num,by go_num,Ad,Ad,(((be.setCell (p:=⟨g,E*4,none⟩) (by dsimp only;omega) _).setCell (p:=⟨g,E*4+1,none⟩) (by dsimp only;omega) _).setCell (p:=⟨g,E*4+2,none⟩) (by dsimp only;omega) _).setCell (p:=⟨g,E*4+3,none⟩) (by dsimp only;omega) _,?_,?_,Ca⟩
        . rw[aq.out];have bj:=D8.et V (k:=E) (r:=⟨T,a2,a3,a4⟩) (by have:=ba.out;omega);have e:((zc.take H).filter (λx=>!Cn x)++J++zc.drop H).set E ⟨T,a2,a3,a4⟩=(zc.take H).filter (λx=>!Cn x)++[⟨T,a2,a3,a4⟩]++(ao++[⟨T,a2,a3,a4⟩])++zc.drop (H+1):=by rw[a9.out,a8.out,yy,aaw _ _ (by rw[am.out];exact zs _),am.out,adn];simp
          rw[e]at bj;exact bj
        rw[aq.out];have:=am.out;simp;omega
       case measure=>have:=bc.out;simp[intOf];omega
    . obtain rfl:H=zc.length:=Ad;have av:D8 wr za (.slice g zc.length zh) (zc.filter (λx=>!Cn x)++J):=by have:=az;rw[x0,abr,yg]at this;exact this
      have aG:(zc.filter (λx=>!Cn x)).length=E:=by rw[x0]at ad;exact ad
      have aH:(zc.filter (λx=>!Cn x)++J).length=zc.length:=by rw[zu];omega
      have aI:AP wr za 320 4 (.slice g zc.length zh) zc.length ((zc.filter (λx=>!Cn x)++J).flatMap DR):=by have aJ:=av;unfold D8 at aJ;rw[aH]at aJ;exact aJ
      have bk:=BZ C1 (zc.filter (λx=>!Cn x)++J);have bn:∀t,t<(zc.length-E)*4->(wr.cell? ⟨g,E*4+t,none⟩).isSome=true:=λt b6=>by obtain⟨z,ac⟩:∃z,((zc.filter (λx=>!Cn x)++J).flatMap DR)[E*4+t]? =some z:=⟨_,zr (by rw[bk,aH];omega)⟩;have:=World.ownsRow.cells aI (g:=g) rfl (E*4+t) z ac;rw[S7]at this;rw[this];rfl
      have br:∀t,t<(zc.length-E)*4->wr.frozen? ⟨g,E*4+t,none⟩=false:=λt _=>av.c5 _;have b7:=λbR=>Zj wr bR g (E*4) (zc.length-E) (zh-E) Ad bn br;obtain⟨b8,bt,bu⟩:=AP.dH (Qc (zc.length-E)) (E*4) _ _ aI;have hcut:=bt.eY (k:=E) Ad;rw[bu,y4,ace (by rw[BZ C1,aG])]at hcut;have bS:=hcut;have ak:=(AP.J av g rfl).1;have bT:(Ae ab (wr.setCells g (E*4) (Qc (zc.length-E)))):=aW.grown (E6 (g:=g) _ _ _) (λk e=>by have b9:g=k:=xg e;omega);have bU:=zk aG;have bN:(0:Int)<=(E:Int):=Ad;have bO:(E:Int)<=(zc.length:Int):=Ad;have cc:(E:Int)<(zh:Int):=Ad;have ce:(E:Int)<=(zh:Int):=Ad;have cf:(zc.length:Int)<=(zh:Int):=Ad;clear ad al av aI bk aG aH bn br bt bu hcut ay aV ae ah ak;go_wp2;go_ret;refine⟨⟨E,rfl,?_⟩,bT⟩;unfold D8;rw[bU.out];exact bS
def AaT(zc:List BI)(w:Aj)(e:Bz)(w':Aj):Prop:=∃(v:Aw)(out:An)(u:List BI)(m:Nat),e=.returned v/\Ay w' w v out/\Ae w w'/\u.Perm (zc.filter λr=>!Cn r)/\out.Perm ((u.take m).map BI.aP)
def AdH(w:Aj)(A:AD)(n c:Nat)(keep:Int)(zc:List BI)(ae:BA w A n 4 (zc.flatMap DR))(ao:zc.length<=1000000)(aq:∀r∈zc,-9223372036854775808<=r.aP/\r.aP<=Bh):AC 156 #[.slice A n c,keep] w (AaT zc w):=by
 have aQ:zc.length=n:=by have:=ae.1;rw[BZ C1]at this;omega
 skip;by_cases aR:(n:Int)<=keep
 . go_enter func156,ntmps156;go_wp2;go_ret;exact⟨_,[],_,0,rfl,Ay.nil _ _,Ae.refl _,abb _,AG⟩
 . have aS:keep<(n:Int):=Ad;go_enter func156,ntmps156;go_wp2_with fail
   refine(AcI A n c zc w ae Ad).mono ?_;rintro e au⟨v1,rfl,V,av⟩;obtain⟨af,aw,Z,rfl⟩:=AP.form V;have ax:=V;clear V;go_wp2_with fail
   refine(Ah6 w w af aw Z zc au (zs _) av ax ao).mono ?_;rintro e w2⟨⟨m,rfl,ag⟩,ay⟩;have az:(zc.filter λr=>!Cn r).length<=zc.length:=yl _ _;skip;go_wp2_with fail
   refine(Aal w2 w af m Z _ ag Ad).mono ?_;rintro e J⟨rfl,u,ah,T,aj⟩;obtain⟨aA,ak,aT⟩:=ah.db (by rw[T.length_eq];omega);have aa:=ay.grown aj (λk e=>(AP.J ag k e).1);have aB:=T.length_eq;subst aA;obtain⟨q,aU⟩:∃q:Nat,min (u.length:Int) ((n:Int)/2)=(q:Int):=⟨min u.length (n/2),Ad⟩;have hmx:max (q:Int) 0=(q:Int):=Ad;have aV:q<=u.length:=Ad;have aC:(∀r∈u,-9223372036854775808<=r.aP/\r.aP<=Bh):=λr O=>aq r (ye.1 (T.mem_iff.1 O)).1;have aD:=ak;have aW:(n:Int)<=1000000:=Ad;have aX:(u.length:Int)<=(n:Int):=Ad;have aY:(q:Int)<=1000000:=Ad;have aZ:(q:Int)<=(u.length:Int):=Ad;have a1:(q:Int)<=(Z:Int):=Ad;clear ah aj ak aB az;go_wp2;go_loopw[7,29](λo i wr=>∃k:Nat,i=k/\k<=q/\Ay wr J o ((u.take k).map BI.aP)/\Ae J wr)(λ_ i _=>q-(intOf i).toNat);case atStart=>exact⟨0,rfl,zx _,Ay.nil _ _,Ae.refl _⟩
   case round=>
    obtain⟨k,rfl,a5,E,U⟩:=hrel;by_cases a6:k<q;obtain⟨a7,H,a2,a3,a4,rfl,O,a8,a9,ba,bc⟩:=Ou (aD.ext U) (k:=k) Ad;have bd:(0:Int)<=(k:Int):=Ad;have be:(k:Int)<(q:Int):=Ad;have al:=aC _ (zm O);dsimp only at al;have bf:=(Aq.new wr 320 #[H,a2,a3,a4]).cell 0;have aE:=zk (AM O);clear O;obtain⟨aF,am,aG,rfl⟩:=E.form;have ab:((u.take k).map BI.aP).length<=1000000:=by rw[z2,ya];omega
    have aH:(J.heap.size<=wr.heap.size):=U.size_le;have aI:Ae wr ((wr.alloc (.cells #[H,a2,a3,a4] 320)).alloc (.cells #[H] 3)):=by grind
    have aJ:=zk ((Aq.b0 wr (.cells #[H,a2,a3,a4] 320) 3 #[H]).cell 0);have aK:(am:Nat)=((u.take k).map BI.aP).length:=E.aL;clear aK;go_wp2_with(at_builtin;refine BW _ rfl (.tmp 33) (.tmp 36) rfl J _ ((u.take k).map BI.aP) rfl ((E.alloc _).alloc _) _ _ H rfl aJ.out al (by have:=ab;omega) (by have:=aH;simp;omega) ?_;intro bh bi ac aL aM;obtain⟨bj,bk,bn,rfl⟩:=ac.form;have aN:=ac;clear ac aM)
    go_roundw;case rel=> refine⟨k+1,by go_num,by omega,?_,(U.trans aI).grown aL (λj ad=>(E.J j ad).1)⟩;rw[aE.out,yo];exact aN
    case measure=>simp[intOf];omega
    obtain rfl:k=q:=Ad;have ab:((u.take k).map BI.aP).length<=1000000:=by rw[z2,ya];omega
    obtain⟨aF,am,aG,rfl⟩:=E.form;skip;go_wp2_with fail
    refine(Rx wr J _ _ E ab).mono ?_;rintro e br⟨rfl,aO,an⟩;have aP:=(aa.trans U).grown an (λj ad=>z7 aa.size_le (E.J j ad).1);clear an;go_wp2;go_ret;exact⟨_,_,u,k,rfl,aO.less aa.size_le,aP,T,acx _ _⟩
structure C7 where
 q:Nat
 mp:Nat
 ao:Nat
 a1:Nat
 cP:Aw
 ak:Int->Nat
 aw:Int->Aw
 bv:Int->Aw
def JI(W:By)(x:Int):Int×Int:=(W.two x).getD (0,0)
structure Bl(w:World)(za ap tp:Nat)(Y:C7)(W:By)(zg:List Int):Prop where
 J:Aq w Y.q 246 #[.pointer (some ⟨ap,0,none⟩),.pointer (some ⟨tp,0,none⟩),.map (some Y.mp),.map (some Y.ao),.map (some Y.a1),.int .i64 W.head,Y.cP]
 bE:∃ks f,BB w Y.mp ks f/\(∀x,f x=(W.af x).map λ_=>.pointer (some ⟨Y.ak x,0,none⟩))/\ks.length<=1000000000
 pair:∀x c,W.af x=some c->Aq w (Y.ak x) 307 #[Y.aw x,.int .i64 (JI W x).1,.int .i64 (JI W x).2]/\Ay w za (Y.aw x) c
 bP:∃ks f,BB w Y.ao ks f/\(∀l,(f l=none/\Y.bv l=.slice none 0 0)\/f l=some (Y.bv l))/\∀l∈ks,-100000<=l/\l<=100000
 aH:∀l,Ay w za (Y.bv l) (W.aa l)
 late:∃ks f,BB w Y.a1 ks f/\(∀x,f x=if W.late x then some (.int .i64 1)else none)/\ks.length<=1000000000
 own:Ay w za Y.cP zg
 inj:∀x y c d,W.af x=some c->W.af y=some d->Y.ak x=Y.ak y->x=y
 bk:∀l m,l≠m->DA (Y.bv l) (Y.bv m)
 ae:∀l x c,W.af x=some c->DA (Y.bv l) (Y.aw x)
 aF:∀l,DA (Y.bv l) Y.cP
 bA:Y.mp≠Y.ao/\Y.mp≠Y.a1/\Y.ao≠Y.a1
 ge:za<=Y.q/\za<=Y.mp/\za<=Y.ao/\za<=Y.a1/\∀x c,W.af x=some c->za<=Y.ak x
 cls:∀x c,W.af x=some c->(0<=x/\x<=Bh)/\c.length<=1000/\∀l∈c,-100000<=l/\l<=100000
 a6:∀l,∀x∈W.aa l,∃c,W.af x=some c
 once:∀l,(W.aa l).Nodup
 bY:zg.length<=100000/\∀l∈zg,-100000<=l/\l<=100000
 bM:W.head<=100000
def EW(Y:C7)(W:By)(b:Nat):Prop:=b=Y.q\/b=Y.mp\/b=Y.ao\/b=Y.a1\/Y.cP.ownBlock=some b\/(∃x c,W.af x=some c/\(b=Y.ak x\/(Y.aw x).ownBlock=some b))\/∃l,(Y.bv l).ownBlock=some b
section
variable{w w':World}{za ap tp:Nat}{Y:C7}{W:By}{zg:List Int}
theorem Bl.stay{F:Nat->Prop}(h:Bl w za ap tp Y W zg)(u:Au F w w')(hF:∀b,EW Y W b->¬F b):Bl w' za ap tp Y W zg:=by refine⟨u.J h.J (hF _ (.inl rfl)),?_,λx c O=>?_,?_,λl=>(h.aH l).stay u (λk e=>hF k (.inr (.inr (.inr (.inr (.inr (.inr ⟨l,e⟩))))))),?_,h.own.stay u (λk e=>hF k (.inr (.inr (.inr (.inr (.inl e)))))),h.inj,h.bk,h.ae,h.aF,h.bA,h.ge,h.cls,h.a6,h.once,h.bY,h.bM⟩;obtain⟨J,f,E,H⟩:=h.bE;exact⟨J,f,E.stay u (hF _ (.inr (.inl rfl))),H⟩;obtain⟨E,H⟩:=h.pair x c O;exact⟨u.J E (hF _ (.inr (.inr (.inr (.inr (.inr (.inl ⟨x,c,O,.inl rfl⟩))))))),H.stay u (λk e=>hF k (.inr (.inr (.inr (.inr (.inr (.inl ⟨x,c,O,.inr e⟩)))))))⟩;obtain⟨J,f,E,H⟩:=h.bP;exact⟨J,f,E.stay u (hF _ (.inr (.inr (.inl rfl)))),H⟩;obtain⟨J,f,E,H⟩:=h.late;exact⟨J,f,E.stay u (hF _ (.inr (.inr (.inr (.inl rfl))))),H⟩
theorem Bl.ext(h:Bl w za ap tp Y W zg)(u:Ae w w'):Bl w' za ap tp Y W zg:=h.stay (F:=λ_=>False) u.stay (λ_ _ E=>E)
theorem Bl.lt(h:Bl w za ap tp Y W zg){b:Nat}(hb:EW Y W b):za<=b/\b<w:=by rcases hb with rfl|rfl|rfl|rfl|e|⟨x,c,E,rfl|e⟩|⟨l,e⟩;exact⟨h.ge.1,h.J.lt⟩;obtain⟨H,f,u,_⟩:=h.bE;exact⟨h.ge.2.1,u.lt⟩;obtain⟨H,f,u,_⟩:=h.bP;exact⟨h.ge.2.2.1,u.lt⟩;obtain⟨H,f,u,_⟩:=h.late;exact⟨h.ge.2.2.2.1,u.lt⟩;exact h.own.J b e;exact⟨h.ge.2.2.2.2 x c E,(h.pair x c E).1.lt⟩;exact(h.pair x c E).2.J b e;exact(h.aH l).J b e
theorem Bl.bN(h:Bl w za ap tp Y W zg)(l:Int):(W.aa l).length<=1000000000:=by
 obtain⟨u,f,E,H,J⟩:=h.bE;refine z7 ?_ J;have O:∀x∈W.aa l,x∈u:=λx T=>by obtain⟨c,U⟩:=h.a6 l x T;exact(E.2.2.1 x).2 (by rw[H x,U];rfl)
 exact Il (h.once l) O
end
def XJ{R:List AH}(h:Go.Proofs.YtdmempceikifeaaGreat.Good (Az R)){c:An}(u:∀x∈c,-x∈Az R):Rk R c=true:=by unfold Rk;rw[ad4,xm];intro x E;have:=(EH h).2 (u x E);simp;omega
def AeQ(R:List AH)(cl:Int->Option An)(d:Int)(zi:An)(w:Aj)(e:Bz)(w':Aj):Prop:=∃v full,e=.returned (.tuple #[v,()])/\Ay w' w v full/\US R cl d zi full/\Ae w w'
def AhG(w:Aj)(ap u:Nat):Fs ((w.alloc (.map #[] 0)).alloc (.cells #[.pointer ap,.pointer u,.map (some w),AI,()] 312)) w (w+1) ap u w AI ⟨λ_=>false,[],0⟩:=⟨Aq.b0 w _ _ _,(CE.made w).ext ((Ae.refl _).alloc _),Ay.nil _ _,Ad,zs _,AG,AG,AG⟩
def AaE(w:Aj)(ab ap ac:Nat)(ad:Aw)(ae:Nat)(S:Fb)(za p U:Nat)(lv V:Aw)(zb:Nat)(R:List AH)(E:An)(x:Int)(zi:An) (H:BL w ab ap ac ad ae S)(O:Bm w za p U lv V zb R E)(J:Bq R (AY S.rows) E.length)(af:AY S.rows x=some zi)(ah:∀l∈zi,-l∈Az R)(aB:∀l∈zi,Ak l≠0) (aY:R.length<=100000)(aZ:∀r∈R,r.reason<=Bh)(bR:E.length<=1000000):AC 147 #[.pointer ap,.pointer p,x] w (AeQ R (AY S.rows) E.length zi w):=by
 obtain⟨r,aC,aD,a1,a5,a6⟩:=EZ af;have hid:=F5 aC;have a7:=(H.inv.ok r aD).1.1;have al:-9223372036854775808<=x/\x<=Bh:=by have:=KJ H.inv af;have Z:=H.inv.size;have a8:=H.len;omega
 have aE:BY S.rows x=zi:=by rw[Kw,af];rfl
 have aF:(Bb S.rows x==0)=false:=yv.2 Ad;have aG:=XJ J.aE ah;have bS:∀W:Aj,(binOp .eql 169 (.pointer ap) (.pointer none)).run prog W=.ok false W:=λ_=>AJ;have bT:∀W:Aj,(binOp .eql 163 (.pointer p) (.pointer none)).run prog W=.ok false W:=λ_=>AJ;have bU:=zk af;have am:=zk aE;have a9:=zk aG;clear af aE aG aC aD a1 a5 a6 hid a7;have ba:=zk aF;clear aF;have bV:=@run_makeMap prog;go_enter func147,ntmps147;go_wp2_with fail
 refine(Nw _ ab ap ac ad ae S x H al).mono ?_;rintro e bc⟨rfl,rfl⟩;have bd:=ba.out;generalize Bb S.rows x=z at bd;go_wp2_with fail
 refine(I9 _ ab ap ac ad ae S x H al).mono ?_;rintro e bc⟨v1,rfl,an,aH⟩;rw[am.out]at an;have ao:=(Im H.inv x);rw[am.out]at ao;obtain⟨be,bf,bh,rfl,bi,_⟩:=an.aQ Ad (λl u=>by have:=ao.1 l u;omega);have aI:=aH;clear an aH ao;go_wp2_with fail
 refine(Ab9 _ za p U lv V zb R E be bf bh zi (O.ext aI) bi).mono ?_;rintro e w2⟨rfl,aJ⟩;rw[a9.out];have aa:=aI.trans aJ;clear aJ;have aK:=(AhG w2 ap p);skip;go_wp2_with fail
 have aL:Ae w2 ((w2.alloc (.map #[] 0)).alloc (.cells #[.pointer ap,.pointer p,.map (some w2),AI,()] 312)):=by grind
 skip;refine(Uy w2 _ ab ap ac ad ae S za p U lv V zb R E (w2+1) w2 AI ⟨λ_=>false,[],0⟩ x 0 (H.ext aa) (O.ext aa) aL aK al AG AG).mono ?_;rintro e bj⟨rfl,aM,aq,aN,bk⟩;rw[am.out]at aq;obtain⟨bn,_,aO⟩:=Ld J.aj (but:=0) (λs br=>(J.low s br).2) zi _ (Qy R E.length R.length) (λl u _=>by obtain⟨i,r,hi,e⟩:=C6 ah l u;exact⟨i,r,hi,e,λ_=>(zl.1 hi).1⟩);have bt:JC R (AY S.rows) E.length zi (CH R E.length 0 ⟨λ_=>false,[],0⟩ zi):=λl u=>by have bu:=aB l u;obtain⟨i,r,hi,e⟩:=C6 ah l u;rcases aO l u bu with h|h;exact(J.c8 hi e h).mono AG;exact .keep (zz.2 h)
 have au:=Jq J (zi:=zi) (λl u=>⟨aB l u,C6 ah l u⟩);have aP:(Ae w2 bj):=Au.after aL aN (λb hb=>aK.ge hb);have aQ:=aq;clear aO aq aN bk;go_wp2_with fail
 refine(EY _ za p U lv V zb R E ((O.ext aa).ext aP)).mono ?_;rintro e bW⟨bX,rfl,aj,av⟩;obtain⟨aR,bw,bx,rfl,aw,_⟩:=aj.aQ (by rw[Cd];omega) (JA O.ok);have bz:bw=R.length:=by rw[<-Cd];exact aw.1.symm
 subst bz;have bA:0<R.length->Fa (Lj (w2+1) w2 aM) aR:=λbY bZ e hF=>by subst e;obtain⟨g,zh,e,_⟩:=aj.full (λe=>by have h:=Cd R;rw[e]at h;simp at h;omega);have ax:=(acy e).1;injection ax with ax;subst ax;have ag:=aQ.lt hF;have Z:=(aj.J g rfl).1;dsimp only at ag;omega
 have bB:=aw;have aS:=aP.trans av;have aT:=aQ.ext av;clear aj aw av;go_wp2_with fail
 refine(AeC w2 _ ab ap ac ad ae S za p U lv V zb R E (w2+1) w2 aM _ aR bx zi (H.ext aa) (O.ext aa) aS aT J bn bt bB bA aY aZ).mono ?_;rintro e bC⟨bD,rfl,⟨b0,T,aU,bE⟩,ak⟩;have aV:Ae w2 bC:=Au.after aS aU (λb hb=>aT.ge hb);have aW:=T.own;rw[ak]at aW;have b1:=T.J.cell 3;obtain⟨bF,bG,bH,bI,ay,_⟩:=T.own.aQ (by have:=T.dp;omega) (λl u=>by have:=T.dj l u;omega);subst bI;rw[ak]at ay;have az:bD.lits.length<=1000000:=T.dp;rw[ak]at az;have aA:=aa.trans aV;have bJ:=ay;have bK:=az;clear T aU bE ak aV aW ay az;go_wp2_with fail
 refine(AbO _ za p U lv V zb R E bF bG bH (IY R (AY S.rows) E.length zi) (O.ext aA) bJ (λl u=>?_) (Fi au.vars) bK (λl u=>?_)).mono ?_;obtain⟨i,r,hi,e,_⟩:=au.bw l u;have ag:=AU (O.ok r (zm hi));have Z:=Bk l;rw[<-e]at Z;omega;obtain⟨i,r,hi,e,a8⟩:=au.bw l u;have ag:=(Dx J.aj hi).1;have Z:=Bk l;rw[<-e]at Z;rw[Z]at ag;have b2:=(J.low r (zm hi)).2;rw[ag];omega;rintro e b3⟨bL,bM,rfl,bN,bO,aX,bP⟩;have bQ:=zk aX;clear aX;go_wp2;go_ret2;exact⟨bL,bM,rfl,bN.less aA.size_le,⟨bO,bQ⟩,aA.trans bP⟩
def KP{u:An}(O:u.Pairwise (· <=·)):∀m,m<=u.length->(Lib.compactUpTo u.toArray m).Pairwise (· <·)/\(∀x,x∈Lib.compactUpTo u.toArray m↔x∈u.take m)
 |0,_=>by simp[Lib.compactUpTo]
 |m+1,aj=>by
  obtain⟨aa,V⟩:=KP O m Ad;have J:∀j(h:j<u.length),u.toArray[j]! =u[j]:=λj h=>by rw[getElem!_pos u.toArray j (by simpa using h)];simp
  have ac:u.take (m+1)=u.take m++[u[m]]:=adg Ad;have ad:∀x∈u.take m,x<=u[m]:=λx ae=>by obtain⟨j,H⟩:=z0 ae;rw[xb]at H;split at H;rename_i ab;obtain⟨T,Z⟩:=zl.1 H;rw[<-Z];exact xo.1 O j m T Ad ab;cases H
  rw[Lib.compactUpTo_succ,J m Ad,ac];by_cases E:Lib.keeps u.toArray m=true;rw[zq E];unfold Lib.keeps at E;rw[z8]at E;refine⟨?_,λx=>by rw[zz,zz,V]⟩;rw[ab4];refine⟨aa,AG,λa af b hb=>?_⟩;rw[zy.1 hb];have U:=(V a).1 af;rcases E with E|E;subst E;simp at U;rw[J m Ad,J (m-1) Ad]at E;have T:=ad a U;have ak:=xo.1 O (m-1) m Ad Ad (by
   have:m≠0:=λe=>by subst e;simp at U
   omega)
  have al:a<=u[m-1]:=by obtain⟨j,H⟩:=z0 U;rw[xb]at H;split at H;rename_i ab;obtain⟨T,Z⟩:=zl.1 H;rw[<-Z];rcases aab j (m-1)with g|g;exact xo.1 O j (m-1) T Ad g;have:j=m-1:=Ad;subst this;exact aat _;cases H
  omega;rw[zo E];unfold Lib.keeps at E;rw[z8]at E;have ag:u[m]=u[m-1]:=by apply aad;intro ah;exact E (.inr (by rw[J m Ad,J (m-1) Ad];exact ah))
  refine⟨by simpa using aa,λx=>?_⟩;rw[yg,V,zz];refine⟨.inl,λh=>h.elim id (λh=>?_)⟩;rw[zy.1 h,ag];exact zm (i:=m-1) (by rw[xa Ad];exact zr Ad)
def MU{u:An}(E:u.Pairwise (· <=·)):(Lib.compact u).Pairwise (· <·)/\∀x,x∈Lib.compact u↔x∈u:=by have:=KP E u.length (zs _);rw[x0]at this;exact this
def V3(xs:An):(Cs xs).Pairwise (· <=·):=by have:=ac8 (le:=λx y:Int=>decide (x<=y)) (λa b c u E=>by simp at *;omega) (λa b=>Ca) xs;unfold Cs;exact this.imp λh=>by simpa using h
def CV(R:List AH)(zd:An):Int:=if(Lib.compact (Cs (zd.map λx=>AR R (Ak x)))).length<2 then 0 else(Lib.compact (Cs (zd.map λx=>AR R (Ak x)))).getD ((Lib.compact (Cs (zd.map λx=>AR R (Ak x)))).length-2) 0
def UQ{R:List AH}{y:Int}{rest:An}{d:Int}(J:AR R (Ak y)=d)(O:∀x∈rest,AR R (Ak x)<d):CV R (y::rest)=0/\rest=[]\/∃z∈rest,AR R (Ak z)=CV R (y::rest)/\∀x∈rest,AR R (Ak x)<=CV R (y::rest):=by
 have T:(Cs ((y::rest).map λx=>AR R (Ak x))).Pairwise (· <=·):=by unfold Cs;have:=ac8 (le:=λa b:Int=>decide (a<=b)) (λa b c E H=>by simp at *;omega) (λa b=>Ca) ((y::rest).map λx=>AR R (Ak x));exact this.imp (λh=>by simpa using h)
 obtain⟨E,H⟩:=MU T;have U:∀k,k∈Lib.compact (Cs ((y::rest).map λx=>AR R (Ak x)))↔∃x∈y::rest,AR R (Ak x)=k:=λk=>by rw[H];unfold Cs;rw[List.mem_mergeSort,zw]
 have hb:=Ze E U J O;unfold CV;generalize Lib.compact (Cs ((y::rest).map λx=>AR R (Ak x)))=s at *;by_cases u:rest=[];rw[zq (hb.1 u)];exact .inl ⟨rfl,u⟩;obtain⟨ac,k,V,ad,⟨z,Z,aa⟩,ab⟩:=hb.2 u;rw[zo Ad];have e:s.getD (s.length-2) 0=k:=by rw[yc,V];rfl
 rw[e];exact .inr ⟨z,Z,aa,ab⟩
def Aaq(w:Aj)(za p ae:Nat)(lv af:Aw)(zb:Nat)(R:List AH)(ag:An)(A:AD)(n c:Nat)(xs:An)(H:Bm w za p ae lv af zb R ag)(ax:AB w A n xs)(ay:∀x∈xs,CJ R x=-1) (az:∀x∈xs,0<=AR R (Ak x)/\AR R (Ak x)<=1000000)(ba:n<=1000):AC 153 #[.pointer p,.slice A n c] w λe w'=>e=.returned (CV R xs)/\Ae w w':=by
 have bc:∀W:Aj,(binOp .eql 163 (.pointer p) (.pointer none)).run prog W=.ok false W:=λ_=>AJ;have bd:=ax.1;have aL:=zk ay;clear ay;go_enter func153,ntmps153;go_wp2;go_loopw[5,10](λv i wr=>∃k:Nat,k<=n/\i=k/\Ay wr w v ((xs.take k).map λx=>AR R (Ak x))/\Ae w wr)(λ_ i _=>n-(intOf i).toNat);case atStart=>exact⟨0,zx _,rfl,Ay.nil _ _,Ae.refl _⟩
 case round=>
  obtain⟨k,be,rfl,J,V⟩:=hrel;skip;by_cases aA:k<n;obtain⟨bf,l,rfl,aB,bh,aM,aN⟩:=(ax.ext V).at_ aA;have ah:=zm aB;have aC:=az l ah;have aj:=FW wr za p ae lv af zb R ag l (H.ext V) aM aN;rw[aL l ah]at aj;obtain⟨z,ak⟩:∃z,AR R (Ak l)=z:=⟨_,rfl⟩;have al:=λW(aO:Ae w W)=>GS W za p ae lv af zb R ag (Ak l) (H.ext aO);rw[ak]at aC al;obtain⟨bi,bj⟩:=aC;have aD:(xs.take (k+1)).map (λx=>AR R (Ak x))=(xs.take k).map (λx=>AR R (Ak x))++[z]:=by rw[AM aB,yo,<-ak];rfl
  have aP:=zk aD;have aQ:=aj;have aR:=al;have bk:(0:Int)<=(k:Int):=Ad;have bn:(k:Int)<(n:Int):=Ad;clear ak aD aj al ah;go_wp2_with fail
  refine aQ.mono ?_;rintro e aE⟨rfl,am⟩;have Z:=V.trans am;have aa:=J.ext am;clear am;go_wp2_with fail
  refine(BF _ _).mono ?_;rintro e w2⟨rfl,rfl⟩;go_wp2_with fail
  refine(aR _ Z).mono ?_;rintro e w2⟨rfl,an⟩;have O:=Z.trans an;have T:=aa.ext an;have br:=O.size_le;clear an;go_wp2_with(at_builtin;refine BW _ rfl (.tmp 22) (.tmp 27) rfl w _ _ rfl (T.alloc _) _ _ _ rfl (BD _ _ _) Ad (by rw[z2,ya];omega) Ca ?_;intro bt bu aS aF _;have aT:=(O.alloc _).grown aF (λb e=>(T.J b e).1);clear aF)
  go_roundw;case rel=>exact⟨k+1,Ad,by go_num,by rw[aP.out];exact aS,aT⟩
  case measure=>simp[intOf];omega
  . obtain rfl:k=n:=Ad;have ab:xs.take k=xs:=z1 Ad;rw[ab]at J;have aU:(xs.map λx=>AR R (Ak x)).length<=1000:=by rw[z2];omega
    have U:Hid (CV R xs=if(Lib.compact (Cs (xs.map λx=>AR R (Ak x)))).length<2 then 0 else(Lib.compact (Cs (xs.map λx=>AR R (Ak x)))).getD ((Lib.compact (Cs (xs.map λx=>AR R (Ak x)))).length-2) 0):=zk rfl;have ao:∀x∈Lib.compact (Cs (xs.map λx=>AR R (Ak x))),0<=x/\x<=1000000:=by intro x aV;have aq:=((MU (V3 (xs.map λx=>AR R (Ak x)))).2 x).1 aV;unfold Cs at aq;rw[List.mem_mergeSort]at aq;obtain⟨l,aW,rfl⟩:=zw.1 aq;exact az l aW
    generalize(xs.map λx=>AR R (Ak x))=u at J aU U ao;have aX:=ao;clear ab aA ao;go_wp2_with fail
    refine(Rx wr w _ u J Ad).mono ?_;rintro e aE⟨rfl,au,aG⟩;obtain⟨aY,aZ,a1,a5⟩:=au.form;have aH:(Cs u).length=u.length:=by unfold Cs;rw[aco]
    have Z:=V.grown aG (λb e=>(J.J b e).1);subst a5;have aa:=au;have aI:=zk aH;clear au aG aH;go_wp2_with fail
    refine(PM aE w aY aZ a1 (Cs u) aa (by rw[aI.out];omega)).mono ?_;rintro e w2⟨m,rfl,ac,aJ⟩;have O:=Z.grown aJ (λb e=>(aa.J b e).1);have ad:m=(Lib.compact (Cs u)).length:=ac.aL;have a6:(Lib.compact (Cs u)).length<=1000:=by have:=Lib.compact_length_le (Cs u);rw[aI.out]at this;omega
    generalize Lib.compact (Cs u)=s at ac ad a6 U aX;subst ad;have T:=ac;clear ac aJ;by_cases E:s.length<2
    . have bw:decide (s.length<2)=true:=zt E;have av:Hid (CV R xs=0):=by rw[U.out,zq E];exact zk rfl
      have a7:decide ((s.length:Int)<2)=true:=zt Ad;go_wp2;go_ret;exact⟨Bn av.symm,O⟩
    . have a7:decide ((s.length:Int)<2)=false:=zn Ad;obtain⟨g,zh,e,a8⟩:=T.full (λe=>by rw[e]at E;simp at E);have ab:=(acy e).1;subst ab;obtain⟨y,aw⟩:∃y,s[s.length-2]? =some y:=⟨_,zr Ad⟩;have a9:=T.bm aw;have av:Hid (CV R xs=y):=by rw[U.out,zo E,yc,aw];exact zk rfl
      obtain⟨m,ad⟩:∃m:Nat,s.length=m+2:=⟨s.length-2,Ad⟩;have aK:s.length-2=m:=Ad;rw[aK]at a9;have bx:(0:Int)<=(m:Int):=Ad;have hi:((s.length:Nat):Int)-2=(m:Int):=Ad;have bz:(m:Int)<(s.length:Int):=Ad;generalize s.length=bA at *;clear aw E e ad aK a8 U;go_wp2;go_ret;exact⟨Bn av.symm,O⟩
