import Derived.Test.YtdmempceikifeaaGreatA03
import Derived.Deep.RegionHeld3
import Derived.Deep.RegionLaw
import Derived.StillTailTactics
set_option maxRecDepth 100000
set_option maxHeartbeats 16000000
set_option linter.all false
namespace Go.Proofs.YtdmempceikifeaaGreat
open Go.RowKit Tryz
def Lq{P id Q a w}{l:List Oper}(n)(u:P.follows .mixedOrders=true)(E:Region.lexTailB .any l.toArray n=true) (h:∀W,W=w.drew->wpStill P l.toArray W (λa'=>wpList P l.toArray Q (l.drop n) a' W) (l.take n) a):(Code.region id l.toArray true).wp P Q a w:=wp_region_still_tail n u E (h _ rfl)
def TP(w){zf o a K Q E}(ac:o.guard=none)(s x) (J:o.op=.call {callee:=.builtin .append,args:=#[s,x],argTypes:=#[86,86]}) (za v xs)(O:a.eval s=v)(T:Ay w za v xs)(u c y)(U:a.eval x=.slice (some u) 1 c)(ae:w.cell? u=some (.int .i64 y)) (af:-9223372036854775808<=y/\y<=9223372036854775807)(hb:xs.length+1<=10000000000000)(V:za<=w.heap.size) (h:∀A n c' w',Ay w' za (.slice A n c') (xs++[y])->w.grownBy w' v.ownBlock->((Value.slice A n c').ownBlock=v.ownBlock\/(Value.slice A n c').ownBlock=some w.heap.size)->K (a.put o.dst (.slice A n c')) w'):if Region.wanted o (yielded zf a.tmps)=true then Oper.wp prog o a w K Q else E:=by
 have Z:Region.wanted o (yielded zf a.tmps)=true:=by grind[Region.wanted]
 rw[zq Z];obtain⟨ag,w',hrun,H,aa,ab⟩:=Jp w o.type za v xs T (some u) 1 c [y] ⟨rfl,by decide,by simp_all,λ_=>⟨u,rfl,λj x ah=>by grind[Addr.add]⟩⟩ hb V;obtain⟨A,n,c',rfl⟩:=H.form;unfold Oper.wp execOp;simp only[J,resolve,invoke,builtin,aac,Sem.run_pure,Result.andThen_ok,aa8,xn,abd,O,U,hrun];exact h A n c' w' H aa ab
def AP.form{w za size n e v u}(h:AP w za e size v n u):∃A m c,v=.slice A m c:=by rcases h.2 with⟨rfl,_⟩|⟨E,zh,H,rfl,_⟩<;>exact⟨_,_,_,rfl⟩
def AP.full{w za size n e v E}(h:AP w za e size v n E)(U:0<n):∃g zh,v=.slice (some ⟨g,0,none⟩) n zh/\n<=zh/\g<w.heap.size/\za<=g/\∀j u,E[j]? =some u->w.cell? ⟨g,j,none⟩=some u:=by
 have H:=h;rcases h.2 with⟨_,H⟩|⟨g,zh,V,rfl,hb,J,O,_⟩;omega;refine⟨g,zh,rfl,O,(z6.1 J).1,hb,λj u T=>?_⟩;have:=H.cells (g:=g) rfl j u T;have e:(⟨g,0,none⟩:Addr).add j=⟨g,j,none⟩:=by unfold Addr.add;split<;>simp_all
 rwa[e]at this
def AP.len{w za size n e v u}(h:AP w za e size v n u):∃A c,v=.slice A n c/\n<=c:=by rcases h.2 with⟨rfl,rfl⟩|⟨E,zh,H,rfl,_,_,J,_⟩;simp_all;grind
def Ec(p u:Nat)(lv E:Aw)(b:Nat):Prop:=b=p\/b=u\/lv.ownBlock=some b\/E.ownBlock=some b
def Fx(w w':Aj)(za p u:Nat)(lv E:Aw)(zb:Nat)(zc:List AH)(O:An):Prop:=∃H J,Bm w' za p u H J zb zc O/\Au (Ec p u lv E) w w'/\(∀b,Ec p u H J b->Ec p u lv E b\/w<=b)
def Fo.put{J O}{zb j:Nat}{zc l u rs s}(h:Fo J zb zc)(Z:O.size=J.size)(E:Ak l=j)(U:∀r∈zc,Ak r.lit≠Ak l)(aa:s=if l<0 then-1 else 1) (ab:∀i,O[i]? =if j*4<=i/\i<j*4+(#[Value.int .i64 s,.int .i64 u,.int .i64 rs,.int .i64 zc.length]).size then(#[Value.int .i64 s,.int .i64 u,.int .i64 rs,.int .i64 zc.length])[i-j*4]? else J[i]?):Fo O zb (zc++[⟨l,u,rs⟩]):=by
 refine⟨Z.trans h.1,λv k ac V=>?_⟩;rw[ab];by_cases e:v=j;subst e;rw[zq (by simp;omega),show v*4+k-v*4=k by omega];have H:=QP (r:=⟨l,u,rs⟩) (v:=(v:Int)) (λx T=>by rw[<-E];exact U x T) E;match k,V with
 |0,_=>simp only[BM,H];rw[aa];rfl
 |1,_=>simp only[BM,H];rfl
 |2,_=>simp only[BM,H];rfl
 |3,_=>simp only[BM,H,(PE (r:=⟨l,u,rs⟩) (v:=(v:Int)) (λx T=>by rw[<-E];exact U x T) E)];rfl
 rw[zo Ca,KB (by show Ak l≠v;rw[E];omega)];exact h.2 v k ac V
def AeH{W w2 H za p J lv T E zb zc O ac Z o}(u:Bm W za p J lv T zb zc ac) (ah:Aq w2 J 331 Z)(U:W.grownBy w2 (some J))(aj:Fo Z zb O)(V:(w2.alloc o).grownBy H lv.ownBlock)(ad:Ay H za E (Az O))(ae:E.ownBlock=lv.ownBlock\/E.ownBlock=some (w2.alloc o).heap.size) (ak:∀r∈O,AV r.lit zb=0)(al:O.length<=1000000000):Fx W (H.setCell ⟨p,1,none⟩ E) za p J lv T zb O ac:=by
 obtain⟨ao,aa,_⟩:=u.ch;have af:=u.J.aU aa Ax;have ag:=((u.J.grown U (by simpa using af)).alloc o).grown V (yb (u.lits.ai u.J Ax));have aq:W<=(w2.alloc o).heap.size:=by have:=U.size;simp;omega
 have ab:H.grownBy (H.setCell ⟨p,1,none⟩ E) (some p):=⟨rfl,rfl,rfl,by rw[xf];exact zs _,λk _ am=>yt H _ E k (λe=>am (by rw[e]))⟩;have an:Au (Ec p J lv T) W W:=Au.refl _ _;refine⟨E,T,⟨(ag.ad 1 E),⟨Z,(((ah.alloc o).grown V (yb (u.lits.ai aa Ax))).ar (p:=⟨p,1,none⟩) (yb af) E),aj⟩,ad.kept ab (Or.inr (ad.ai ag Ax)),(((u.be.kept U (Or.inr (u.be.ai aa Ax))).alloc o).kept V u.ap.symm.kept).kept ab (Or.inr (u.be.ai u.J Ax)),u.ap.grow ae (λk e=>by have:=(u.be.J k e).2;omega),u.bp,u.cS,ak,al,u.cQ,u.bk,u.aA⟩,((((an.grown U (λk e=>by cases e;exact Or.inl (Or.inr (Or.inl rfl)))).alloc o).grown V (λk e=>Or.inl (Or.inr (Or.inr (Or.inl e))))).grown ab (λk e=>by cases e;exact Or.inl (Or.inl rfl))),λb hb=>?_⟩;rcases hb with hb|hb|hb|hb;exact Or.inl (Or.inl hb);exact Or.inl (Or.inr (Or.inl hb));rcases ae with e|e;exact Or.inl (Or.inr (Or.inr (Or.inl (e▸hb))));rw[e]at hb;injection hb with hb;exact Or.inr Ad
 exact Or.inl (Or.inr (Or.inr (Or.inr hb)))
def Fx.before{w W w' za p u lv E zb zc H}(J:Ae w W)(h:Fx W w' za p u lv E zb zc H):Fx w w' za p u lv E zb zc H:=by obtain⟨a,b,O,T,U⟩:=h;exact⟨a,b,O,Au.ay J T,λk V=>by rcases U k V with e|e;exact Or.inl e;exact Or.inr (by have:=J.size_le;omega)⟩
def WU(w:Aj)(za p J:Nat)(lv ag:Aw)(zb:Nat)(zc:List AH)(E:An)(l rs:Int)(h:Bm w za p J lv ag zb zc E)(aa:AV l zb=0)(aw:∀r∈zc,Ak r.lit≠Ak l)(aS:zc.length<1000000000):AC 243 #[.pointer p,l,rs] w λe w'=>e=.returned (.tuple #[])/\Fx w w' za p J lv ag zb (zc++[⟨l,E.length,rs⟩]) E:=by
 obtain⟨ax,aT,cl,rfl,aU,aV,ay⟩:=h.cV;obtain⟨az,aW,aA,rfl,hb,aX,aB⟩:=h.di;have ah:=h.J.cell 0;have aY:=h.J.cell 1;have aZ:=h.J.cell 2;have a1:=h.aA;have a5:=h.J.lt;obtain⟨aC,aD,a6,a7,a8,aE⟩:=AU aa;obtain⟨j,ab⟩:=y1 (show 0<=Ak l by omega);have a9:j<=zb:=Ad;have ba:(0:Int)<=(j:Int):=Ad;have bc:(j:Int)<(zb:Int)+1:=Ad;have q:∀W,AC 141 #[l] W λe w'=>e=.returned j/\w'=W:=λW=>(BF l _).mono λe w'⟨aF,aG⟩=>⟨by rw[aF,ab],aG.symm⟩;have aH:=zk ab;have aI:=zk aa;subst ay;subst aB;clear ab aa aC aD aE;by_cases aj:l<0;focus have ac:(-1:Int)=if l<0 then-1 else 1:=by rw[zq aj]
 rotate_left;focus have ac:(1:Int)=if l<0 then-1 else 1:=by rw[zo aj]
 all_goals
  have aJ:=zk ac;clear ac;go_enter func243,ntmps243;go_wp2;go_region_held3(λw'=>w'.cell? ⟨p,1,none⟩=some (.slice ax zc.length cl)/\w'.cell? ⟨p,2,none⟩=some (.slice az E.length aA))(go_keep)(fail)
  go_wp2;refine Lq 8 AJ AJ λW U=>?_;have ak:Ae w W:=by rw[U];grind
 focus have H:Aq W w 331 #[AF,E.length,rs,zc.length]:=by rw[U];exact Aq.new w _ _
 rotate_left;focus have H:Aq W w 331 #[.int .i64 (-1),E.length,rs,zc.length]:=by rw[U];exact Aq.new w _ _
 all_goals
  have u:=h.ext ak;have ah:=u.J.cell 0;have aK:=H.cell 0;have aL:=H.cell 1;have aM:=H.cell 2;have aN:=H.cell 3;clear U H;simp only[List.take_succ_cons,List.take_zero,xp,aai];repeat still_step
  still_call(q _);repeat still_step
  refine wpStill_nil ?_;obtain⟨al,O,V⟩:=u.ch
 focus refine KO rfl 331 (.tmp 29) (.tmp 28) rfl J (j*4) rfl #[.int .i64 (-1),E.length,rs,zc.length] rfl 331 al O (by rw[V.1];simp;omega) AJ (by simp;exact⟨rfl,rfl,rfl,rfl⟩) ?_
 rotate_left;focus refine KO rfl 331 (.tmp 29) (.tmp 28) rfl J (j*4) rfl #[AF,E.length,rs,zc.length] rfl 331 al O (by rw[V.1];simp;omega) AJ (by simp;exact⟨rfl,rfl,rfl,rfl⟩) ?_
 all_goals
  intro w2 bd aO Z am an;have ao:p≠J:=u.J.aU O Ax;have ad:=u.J.grown Z (by simpa using ao);have be:=ad.cell 1;have aq:=u.lits.kept Z (Or.inr (u.lits.ai O Ax));have bf:za<=w2:=by have:=Z.size;have:=u.J.lt;have:=u.bp;omega
  have aP:=Fo.put V am aH aw aJ an;clear O V am an ao ah aK aL aM aN;go_wp2_with(at_builtin;refine BW _ rfl (.tmp 34) (.tmp 36) rfl za _ _ rfl (aq.alloc _) _ _ _ rfl (BD _ _ _) Ad (by rw[Cd];omega) Ca ?_;intro bh bi ae au av;obtain⟨bj,bk,bn,rfl⟩:=ae.form;have af:=(ad.alloc _).grown au (yb (aq.ai ad Ax));have br:=af.cell 1;have f1:=af.frozen 1;clear af;have aQ:=ae;have aR:=av;clear ae av)
  go_end0;refine⟨rfl,Fx.before ak (AeH u aO Z aP au ?_ aR ?_ Ca)⟩;have:=aQ;unfold Az;rw[yo];exact this;intro r T;rcases zz.1 T with T|T;exact u.ok r T;rw[zy.1 T];exact aI
def AW(w:Aj)(za:Nat)(v:Aw)(L:AT):Prop:=∃vs,w.ownsRow za 86 1 v vs.length vs/\vs.length=L.length/\∀(j:Nat)(xs),L[j]? =some xs->∃u,vs[j]? =some u/\Ay w za u xs
section
variable{w w'}{za}{v}{L}
theorem AW.nil(w za):AW w za AI []:=⟨[],ab0 _ _ _ _,rfl,λ_ _ h=>by simp_all⟩
theorem AW.ext(h:AW w za v L)(E:Ae w w'):AW w' za v L:=by obtain⟨vs,a,b,c⟩:=h;refine⟨vs,(show AP w za 86 1 v vs.length vs from a).ext E,b,λj xs H=>?_⟩;obtain⟨u,J,O⟩:=c j xs H;exact⟨u,J,O.ext E⟩
theorem AW.form(h:AW w za v L):∃A n c,v=.slice A n c/\n=L.length/\n<=c:=by obtain⟨vs,a,b,_⟩:=h;obtain⟨A,c,e,u⟩:=AP.len (show AP w za 86 1 v vs.length vs from a);grind
theorem D3{za g size n e t u E}(h:w.ownsRow za e size v n u)(H:Aq w g t E)(J:e≠t):v.ownBlock≠some g:=by
 rcases h.2 with⟨rfl,_⟩|⟨O,zh,U,rfl,_,T,_⟩;simp[Value.ownBlock];intro V;have:O=g:=by grind[Value.ownBlock]
 subst this;exact Aq.aU (t:=e) T H J rfl
theorem Ay.bV{za E size n u xs H}(h:Ay w za u xs)(J:w.ownsRow E 86 size v n H):u.ownBlock=none\/u.ownBlock≠v.ownBlock:=by rcases J.2 with⟨rfl,_⟩|⟨O,zh,U,rfl,_,T,_⟩;grind[Value.ownBlock];exact Or.inr (h.ai (g:=O) (t:=86) T Ax)
theorem AW.cL{g t O}(h:AW w za v L)(E:Aq w g t O)(T:3≠t)(U:86≠t)(H:w.grownBy w' (some g)):AW w' za v L:=by obtain⟨vs,a,b,c⟩:=h;refine⟨vs,aan a H (Or.inr (D3 a E U)),b,λj xs V=>?_⟩;obtain⟨u,Z,J⟩:=c j xs V;exact⟨u,Z,J.kept H (Or.inr (J.ai E T))⟩
theorem AW.J(h:AW w za v L):∀k,v.ownBlock=some k->za<=k/\k<w:=let⟨_,a,_,_⟩:=h;xy a
theorem AW.ai{g t u}(h:AW w za v L)(E:Aq w g t u)(H:86≠t):v.ownBlock≠some g:=let⟨_,a,_,_⟩:=h;D3 a E H
theorem AW.aC(h:AW w za v L)(hb:∀xs∈L,xs.length<=Bh/\∀x∈xs,-9223372036854775808<=x/\x<=Bh)(ac:L.length<=Bh):∃A n c,v=.slice A n c/\Bf w A n L/\n<=c:=by obtain⟨vs,E,O,T⟩:=h;rcases E.2 with⟨rfl,H⟩|⟨g,zh,ad,rfl,ae,af,U,_⟩;have:L=[]:=z9 Ad;subst this;exact⟨none,0,0,rfl,Bf.nil w,zs _⟩;refine⟨_,_,_,rfl,⟨O.symm,Ad,λ_=>⟨_,rfl,λj xs J=>?_⟩⟩,U⟩;obtain⟨u,H,V⟩:=T j xs J;obtain⟨Z,aa⟩:=hb xs (zm J);obtain⟨A,n,c,rfl,ab⟩:=V.aC Z aa;exact⟨A,n,c,E.cells (g:=g) rfl j _ H,ab⟩
end
def Tz(w){zf o a K Q E}(ax:o.guard=none)(s x) (ad:o.op=.call {callee:=.builtin .append,args:=#[s,x],argTypes:=#[32,32]}) (za v L)(ae:a.eval s=v)(af:AW w za v L)(U c A n c' y)(ag:a.eval x=.slice (some U) 1 c)(az:w.cell? U=some (.slice A n c')) (aa:Ay w za (.slice A n c') y)(hb:L.length+1<=1000000000000)(ah:za<=w) (h:∀J O T w',AW w' za (.slice J O T) (L++[y])->w.grownBy w' v.ownBlock->K (a.put o.dst (.slice J O T)) w'):if Region.wanted o (yielded zf a.tmps)=true then Oper.wp prog o a w K Q else E:=by
 have aj:Region.wanted o (yielded zf a.tmps)=true:=by grind[Region.wanted]
 rw[zq aj];obtain⟨i,hi,ak,al,am⟩:=info_parts Xv;obtain⟨vs,V,an,ao⟩:=af;obtain⟨aq,w',hrun,ab,Z,_,aA⟩:=run_append_own_at (P:=prog) w za 32 o.type 86 i AI 1 24 underlying32 hi ak al am rfl Ax v vs.length _ V U 1 c [.slice A n c'] AG (λj u H=>by
  cases j with
  |zero=>grind[Addr.add]
  |succ j=>grind) (by intro u au;rw[zy.1 au];rfl) (by grind[maxLen]) Ad ah
 obtain⟨J,O,T,rfl⟩:=AP.form (show AP w' za 86 1 aq _ _ from ab);unfold Oper.wp execOp;simp only[ad,resolve,invoke,builtin,aac,Sem.run_pure,Result.andThen_ok,aa8,xn,abd,ae,ag,hrun];refine h J O T w' ⟨vs++[.slice A n c'],?_,by grind,?_⟩ Z;rw[zu];exact ab;intro j xs H;by_cases av:j<L.length;rw[yh av]at H;obtain⟨u,aw,ac⟩:=ao j xs H;exact⟨u,by rw[yh Ad];exact aw,ac.kept Z (ac.bV V)⟩;rw[yi Ad]at H;have:j-L.length=0:=by have:=(zl.1 H).1;grind
 rw[this]at H;simp at H;subst H;exact⟨_,by rw[yi Ad,an,this];rfl,aa.kept Z (aa.bV V)⟩
def Aq.c7{w:World}{g}(t u)(E:w.heap.size=g):Aq (w.alloc (.cells u t)) g t u:=by grind[Aq.new]
def AeP{w H E g J za y O u L V o Z}(aa:Aq H g 34 #[.int .i64 y,O])(ab:Aq H J 34 Z)(ae:J≠g)(af:AW H za O L) (T:(H.alloc o).grownBy E O.ownBlock)(ag:AW E za u V)(ah:Ae w H)(al:w.heap.size<=za)(am:w.heap.size<=g):AW (E.setCell ⟨g,1,none⟩ u) za u V/\Aq (E.setCell ⟨g,1,none⟩ u) g 34 #[.int .i64 y,u]/\Aq (E.setCell ⟨g,1,none⟩ u) J 34 Z/\Ae w (E.setCell ⟨g,1,none⟩ u):=by have U:=af.ext ((Ae.refl H).alloc o);have ac:=(aa.alloc o).grown T (yb (U.ai (aa.alloc o) Ax));have aj:=(ab.alloc o).grown T (yb (U.ai (ab.alloc o) Ax));have ad:E.grownBy (E.setCell ⟨g,1,none⟩ u) (some g):=⟨rfl,rfl,rfl,by rw[xf];omega,λk _ ak=>yt E _ u k (λe=>ak (by rw[e]))⟩;refine⟨ag.cL ac Ax Ax ad,ac.ad 1 u,aj.ar (p:=⟨g,1,none⟩) ae u,?_⟩;exact((ah.alloc o).grown T (λk e=>by have:=(U.J k e).1;omega)).grown ad (λk e=>by simp_all)
def AcD(v:Int)(L:AT)(w:Aj)(e:Bz)(w':Aj):Prop:=∃A n c,e=.returned (.agg #[v,.slice A n c])/\Bf w' A n L/\n<=c/\Ae w w'/\AW w' w (.slice A n c) L
def AfC(v:Int)(A:AD)(n c:Nat)(L:AT)(w:Aj)(h:Bf w A n L)(a6:n<=1000000)(ag:∀xs∈L,xs.length<=1000000):AC 80 #[.agg #[v,.slice A n c],AI] w (AcD v L w):=by
 have a7:=h.len;skip;go_enter func80,ntmps80;go_wp2_with fail
 go_loopw[16](λi wr=>∃(k:Nat)(Z:Aw),k<=n/\i=k/\AW wr w Z (L.take k)/\Aq wr (w+1+1) 34 #[v,Z]/\Aq wr (w+1) 34 #[(),AI]/\Ae w wr)(λi _=>n-(intOf i).toNat);case atStart=>exact⟨0,_,zx _,rfl,AW.nil _ _,Aq.c7 _ _ AG,(Aq.c7 _ _ AG).alloc _,by grind⟩
 case round=>
  obtain⟨k,Z,T,rfl,aa,hb,u,U⟩:=hrel;obtain⟨H,no,co,rfl,ah,a8⟩:=aa.form;have aj:=hb.cell 1;have a9:=zk ah;have ab:=aa;have ac:=hb;have aC:=U.size_le;have ak:(L.take k).length+1<=1000000000000:=by have:=aa4 k L;omega
  clear ah aa hb;by_cases al:k<n
  . obtain⟨ba,xs,bc,aD,bd,rfl,am,be,J⟩:=(h.ext U).at_ al;have aE:=zk (AM am);have aF:aD<=1000000000000:=by have:=ag xs (zm am);have:=J.1;omega
    have an:(Ae wr wr.drew):=(Ae.refl wr).drew;have aG:=J.ext an;have aH:w<=wr.drew.heap.size:=aC;clear J;go_wp2;go_region_law ((first
      |(go_simp;(with_reducible refine(Fm _ _ _ xs _ aG aF).mono ?_);rintro e E⟨v4,rfl,ad,aI⟩;obtain⟨aJ,aK,aL,rfl⟩:=ad.form;have O:=an.trans aI;have V:=ac.ext O;have aM:E.cell? ⟨w+1+1,1,none⟩=some (.slice H no co):=V.cell 1;have bf:∀o,(E.alloc o).cell? ⟨w+1+1,1,none⟩=some (.slice H no co):=(λo=>((Ae.refl E).alloc o).cell aM);have ae:=ab.ext O;have aN:=ad.less aH;clear ad;dsimp only)
      |(refine Tz _ (by rfl) (.tmp 21) (.tmp 24) (by rfl) w _ (L.take k) (by rfl) (ae.ext (by(repeat(first|with_reducible exact Ae.refl _|with_reducible apply Ae.alloc|with_reducible apply Ae.drew)))) _ _ aJ aK aL xs (by rfl) (by first|exact BD _ _ _|go_simp) (Ay.ext aN (by(repeat(first|with_reducible exact Ae.refl _|with_reducible apply Ae.alloc|with_reducible apply Ae.drew)))) ak (by have:=O.size_le;simp;omega) ?_;intro bh bi bj bk aO ao;have aq:=(V.ext (show Ae E _ by(repeat(first|with_reducible exact Ae.refl _|with_reducible apply Ae.alloc|with_reducible apply Ae.drew)))).grown ao (yb (AW.ai (ae.ext (show Ae E _ by(repeat(first|with_reducible exact Ae.refl _|with_reducible apply Ae.alloc|with_reducible apply Ae.drew)))) (V.ext (show Ae E _ by(repeat(first|with_reducible exact Ae.refl _|with_reducible apply Ae.alloc|with_reducible apply Ae.drew)))) Ax));have bn:=aq.cell 1;have f1:=aq.frozen 1;skip)))
    all_goals
     obtain⟨aP,aQ,aR,aS⟩:=AeP V (u.ext O) Ad ae ao aO (U.trans O) (zs _) Ad;skip;go_wp2;go_roundw;case rel=>exact⟨k+1,_,Ad,by go_num,by rw[aE.out];exact aP,aQ,aR,aS⟩
     case measure=>simp[intOf];omega
  have af:=ab;rw[CI h.1 al]at af;have aT:=af;have au:=zk h.1;clear af ab aj ak;go_wp2_with fail
  refine xc 1 ?_;rw[yu];have br:=ac.cell 0;have aj:=ac.cell 1;have bt:=u.cell 0;have bu:=u.cell 1;have bw:=u.frozen 0;have bx:=u.frozen 1;go_wp2_with fail
  have av:wr.grownBy (wr.setCell ⟨w+1,0,none⟩ v) (some (w+1)):=⟨rfl,rfl,rfl,by rw[xf];exact zs _,λk _ T=>yt wr _ _ k (λe=>T (by rw[e]))⟩;have aw:=u.ad 0 v;have ax:(wr.setCell ⟨w+1,0,none⟩ v).grownBy ((wr.setCell ⟨w+1,0,none⟩ v).setCell ⟨w+1,1,none⟩ (.slice H no co)) (some (w+1)):=⟨rfl,rfl,rfl,by rw[xf (wr.setCell ⟨w+1,0,none⟩ v)];exact zs _,λk _ T=>yt _ _ _ k (λe=>T (by rw[e]))⟩;have ay:=aw.ad 1 (.slice H no co);have az:=(aT.cL u Ax Ax av).cL aw Ax Ax ax;have aU:=(U.grown av (λk e=>by cases e;omega)).grown ax (λk e=>by cases e;omega);have t0:=ay.cell 0;have t1:=ay.cell 1;refine yw (v:=.agg #[v,.slice H no co]) (by simp[results,results80,go_sem,t0,t1]) rfl ?_;have aV:∀xs∈L,xs.length<=Bh/\∀x∈xs,-9223372036854775808<=x/\x<=Bh:=by intro xs aA;refine⟨by have:=ag xs aA;omega,λx aW=>?_⟩;obtain⟨j,aB⟩:=abw.1 aA;obtain⟨_,aX,_,_,_,_,aY,_,J⟩:=h.at_ (k:=j) (by have:=(zl.1 aB).1;have:=au.out;omega);obtain rfl:xs=aX:=xg (aB.symm.trans aY);exact J.2.2.1 x aW
  obtain⟨bz,bA,bB,aZ,a1,a5⟩:=az.aC aV (by have:=au.out;omega);cases aZ;exact⟨_,_,_,rfl,a1,a5,aU,az⟩
def BA.bz(w:Aj)(E t):BA (w.alloc (.cells E t)) w 1 E.size E.toList:=⟨AG,Ax,λ_=>⟨_,rfl,λj u H=>by grind[Addr.add,cell_of_row,heap_alloc_new]⟩⟩
def Ajb:LF 32 86 AI 1 24:=⟨underlying32,Xv,rfl,Ax,Ax⟩
def CS{P fn}{p u:Tmp}{E}(h:fn.results=#[.cell p E,.tmp u])(J)(w:Aj)(g:Nat)(t H O d) (T:J.getD p undef=.pointer g)(U:w.heap[g]? =some (.cells H t O))(V:P.underlying E=some d)(Z:(match d with|.struct _|.array _ _=>true|_=>false)=true)(hi:(P.info? E).map (·.size)=some H.size):(results fn J).run P w=.ok (.tuple #[.agg H,J.getD u undef]) w:=by rw[results_cell_tmp h,T];simp[asAddr,run_loadVar_row w g t E H O d U V Z hi,Result.andThen]
def Cu(f:Nat->Int)(n k:Nat):Ck:=((List.range n).map λi=>Value.int .i64 (if i<k then f i else 0)).toArray
def IV(f n):madeCells #[Value.int IntKind.i64 0] n=Cu f n 0:=by apply acp;rw[size_madeCells];simp[Cu];intro i u E;unfold madeCells Cu;grind
def IC(f){n k}:(Cu f n k).setIfInBounds k (f k)=Cu f n (k+1):=by
 apply acp;simp[Cu];intro i u E;have hi:i<n:=by grind[Cu]
 by_cases e:k=i;grind[Cu];rw[acc (by simp_all) Ad];simp only[Cu,List.getElem_toArray,ade,ady];grind
def IG(f n):Cu f n n=(((List.range n).map f).map (Value.int .i64)).toArray:=by unfold Cu;simp_all
def Af5{W O H za p V lv J E zb zc af T}(ag:Bm W za p V lv J zb zc af)(Z:Ae W O) (U:O.grownBy H J.ownBlock)(ac:Ay H za E T)(ad:E.ownBlock=J.ownBlock\/E.ownBlock=some O.heap.size) (ah:T.length<=1000000000)(aj:∀x∈T,0<=x/\x<=1000000000):Fx W (H.setCell ⟨p,2,none⟩ E) za p V lv J zb zc T:=by have u:=ag.ext Z;obtain⟨ak,aa,al⟩:=u.ch;have ae:=u.J.grown U (yb (u.be.ai u.J (by decide)));have am:=(aa.grown U (yb (u.be.ai aa (by decide)))).ar (p:=⟨p,2,none⟩) (yb (u.J.aU aa Ax)) E;have ab:H.grownBy (H.setCell ⟨p,2,none⟩ E) (some p):=⟨rfl,rfl,rfl,by rw[xf];exact zs _,λk _ an=>yt H _ E k (λe=>an (by rw[e]))⟩;have ao:Au (Ec p V lv J) W O:=Z.stay;have aq:=(ao.grown U (λk e=>Or.inl (Or.inr (Or.inr (Or.inr e))))).grown ab (λk e=>by cases e;exact Or.inl (Or.inl rfl));refine⟨lv,E,⟨(ae.ad 2 E),⟨ak,am,al⟩,(u.lits.kept U u.ap.kept).kept ab (Or.inr (u.lits.ai u.J Ax)),ac.kept ab (Or.inr (ac.ai ae Ax)),(u.ap.symm.grow ad (λk e=>(u.lits.J k e).2)).symm,u.bp,u.cS,u.ok,u.bh,ah,aj,u.aA⟩,aq,λb hb=>?_⟩;rcases hb with hb|hb|hb|hb;exact Or.inl (Or.inl hb);exact Or.inl (Or.inr (Or.inl hb));exact Or.inl (Or.inr (Or.inr (Or.inl hb)));rcases ad with e|e;exact Or.inl (Or.inr (Or.inr (Or.inr (e▸hb))));rw[e]at hb;injection hb with hb;exact Or.inr (by have:=Z.size_le;omega)
def Fx.next{w H w2 za p u lv E J O zb zc T}(U:Au (Ec p u lv E) w H)(V:∀b,Ec p u J O b->Ec p u lv E b\/w<=b) (h:Fx H w2 za p u J O zb zc T):Fx w w2 za p u lv E zb zc T:=by obtain⟨a,b,Z,aa,ab⟩:=h;refine⟨a,b,Z,U.trans aa (λj ae ac=>by rcases V j ac with e|e;exact e;omega),λk ad=>?_⟩;rcases ab k ad with e|e;exact V k e;exact Or.inr (z7 U.size e)
def YQ(w:Aj)(za p O:Nat)(lv T:Aw)(S:JS)(zb:Nat)(E:An)(l:Int)(am:S.vars=zb)(h:Bm w za p O lv T zb S.rows E)(an:DW S)(hb:BS S.rows S.depth E)(ao:S.rows.length<1000000000)(aH:E.length<1000000000):AC 168 #[.pointer p,l] w λe w'=>e=.returned (Df S l)/\∃ac,Fx w w' za p O lv T zb (Ji S l).rows ac/\BS (Ji S l).rows (Ji S l).depth ac:=by
 obtain⟨Dd,zc,U⟩:=S;obtain rfl:Dd=zb:=am;by_cases J:Df ⟨zb,zc,U⟩ l=0
 . obtain⟨ad,aq⟩:=QM J;have H:=zk J;have au:=zk ad;clear J ad;go_enter func168,ntmps168;go_wp2_with fail
   refine(LJ _ za p O lv T zb zc E U l h).mono ?_;rintro e V⟨rfl,ae⟩;rw[H.out];have u:=h.ext ae;obtain⟨aI,aJ,cl,rfl,av,aK,aw⟩:=u.cV;obtain⟨aL,aM,aN,rfl,ax,aO,ay⟩:=u.di;subst aw;subst ay;have aP:=u.J.cell 1;have aQ:=u.J.cell 2;go_wp2;have d2:=(u.ext ((Ae.refl V).alloc (Obj.cells #[Value.int .i64 (zc.length:Nat)] 3))).J.cell 2;have aa:=u;have aR:za<=V:=by have:=u.J.lt;have:=u.bp;omega
   have az:=u.be.ai u.J Ax;clear av ax;go_region_law ((refine TP _ (by rfl) (.tmp 15) (.tmp 21) (by rfl) za _ E (by rfl) (aa.be.ext (by grind)) _ _ _ (by rfl) (by first|exact BD _ _ _|go_simp) Ad Ad Ca ?_;intro aS aT aU aV aA af aB;have ab:=(aa.J.ext (show Ae V _ by grind)).grown af (yb az);have aW:=ab.cell 1;have aX:=ab.cell 2;have f2:=ab.frozen 2;clear ab;skip))
   all_goals
    have aC:=Af5 aa (show Ae V _ by grind) af aA aB Ca (by intro x Z;rcases zz.1 Z with Z|Z;exact aa.bk x Z;rw[zy.1 Z];omega);obtain⟨aD,aE,ag,ah,aj⟩:=aC;go_wp2_with fail
    refine(WU _ za p O aD aE zb zc _ l (-1) ag au aq ao).mono ?_;rintro e aY⟨rfl,ak⟩;have aF:=Fx.before ae (ak.next ah aj);clear ag ah aj ak;go_wp2;go_ret;have aG:((E++[(zc.length:Int)]).length:Int)=U+1:=by have:=hb.1;simp at this⊢;omega
    refine⟨Bn H.symm,E++[(zc.length:Int)],?_,?_⟩;unfold Ji;rw[zq H.out];have:=aF;rw[aG]at this;exact this;unfold Ji;rw[zq H.out];exact XR an hb l (-1)
 have aZ:(Df ⟨zb,zc,U⟩ l==0)=false:=by simpa using J
 have H:=zk J;clear J;go_enter func168,ntmps168;go_wp2_with fail
 refine(LJ _ za p O lv T zb zc E U l h).mono ?_;rintro e V⟨rfl,al⟩;go_wp2;go_ret;refine⟨rfl,E,?_,?_⟩;unfold Ji;rw[zo H];exact⟨lv,T,h.ext al,al.stay,λb hb=>Or.inl hb⟩;unfold Ji;rw[zo H];exact hb
def Sj(w za p U lv E)(S:JS)(zb:Nat)(H l rs)(ab:S.vars=zb)(h:Bm w za p U lv E zb S.rows H)(hb:BS S.rows S.depth H)(ac:S.rows.length<1000000000):Calls prog 155 #[.pointer (some ⟨p,0,none⟩),.int .i64 l,.int .i64 rs] w λe w'=>e=.returned (.int .i64 (Gx S l rs))/\Fx w w' za p U lv E zb (Hw S l rs).rows H/\BS (Hw S l rs).rows (Hw S l rs).depth H:=by
 obtain⟨Dd,zc,J⟩:=S;obtain rfl:Dd=zb:=ab;by_cases T:Df ⟨zb,zc,J⟩ l=0
 . by_cases V:rs<0
   . have u:Hid (Gx ⟨zb,zc,J⟩ l rs=2):=by unfold Hid Gx;rw[zo (by simp[T]),zq V]
     go_enter func155,ntmps155;go_wp2_with fail
     refine(LJ _ za p U lv E zb zc H J l h).mono ?_;rintro e Z⟨rfl,O⟩;rw[(zk T).out];go_wp2;go_ret;refine⟨Bn u.symm,?_,?_⟩
     . unfold Hw;rw[zo (by rw[u.out];decide)];exact⟨lv,E,h.ext O,O.stay,λb hb=>Or.inl hb⟩
     . unfold Hw;rw[zo (by rw[u.out];decide)];exact hb
   . have u:Hid (Gx ⟨zb,zc,J⟩ l rs=0):=by unfold Hid Gx;rw[zo (by simp[T]),zo V]
     obtain⟨ad,ae⟩:=QM T;go_enter func155,ntmps155;go_wp2_with fail
     refine(LJ _ za p U lv E zb zc H J l h).mono ?_;rintro e Z⟨rfl,O⟩;rw[(zk T).out];go_wp2_with fail
     refine(WU _ za p U lv E zb zc H l rs (h.ext O) (zk ad) ae ac).mono ?_;rintro e w2⟨rfl,af⟩;go_wp2;go_ret;refine⟨Bn u.symm,?_,?_⟩;unfold Hw;rw[zq u.out];have:=(af.before O);rw[(hb.1)]at this;exact this;unfold Hw;rw[zq u.out];exact Qu hb l rs
 have u:Hid (Gx ⟨zb,zc,J⟩ l rs=Df ⟨zb,zc,J⟩ l):=by unfold Hid Gx;rw[zq T]
 have aa:=zk T;go_enter func155,ntmps155;go_wp2_with fail
 refine(LJ _ za p U lv E zb zc H J l h).mono ?_;rintro e Z⟨rfl,O⟩;go_wp2;go_ret;refine⟨Bn u.symm,?_,?_⟩;unfold Hw;rw[zo (by rw[u.out];exact aa)];exact⟨lv,E,h.ext O,O.stay,λb hb=>Or.inl hb⟩;unfold Hw;rw[zo (by rw[u.out];exact aa)];exact hb
def Ay.full{w za v xs}(h:Ay w za v xs)(u:xs≠[]):∃g zh,v=.slice (some ⟨g,0,none⟩) xs.length zh/\xs.length<=zh:=by rcases h.2 with⟨_,E⟩|⟨g,zh,J,rfl,_,_,H,_⟩;exact absurd (z9 E) u;exact⟨g,zh,rfl,H⟩
def Ay.cut{w za g n zh k xs}(h:Ay w za (.slice (some ⟨g,0,none⟩) n zh) xs)(aa:k<=xs.length):Ay w za (.slice (some ⟨g,0,none⟩) k zh) (xs.take k):=by
 rcases h.2 with⟨e,_⟩|⟨ab,ac,H,e,hb,J,ad,O,T,U⟩;cases e;injection e with u V Z;injection u with u;injection u with u;subst u V Z;have E:(xs.take k).length=k:=by rw[ya];omega
 refine⟨AG,Or.inr ⟨g,zh,H,by rw[E],hb,J,Ad,O,T,?_⟩⟩;rw[E,ad3,<-U,abq];congr 1;omega
def Fo.pop{u E}{zb j:Nat}{zc r}(h:Fo u zb (zc++[r]))(O:E.size=u.size)(H:Ak r.lit=j)(T:∀x∈zc,Ak x.lit≠Ak r.lit) (U:∀i,E[i]? =if j*4<=i/\i<j*4+(#[Value.int .i64 0,(),(),()]).size then(#[Value.int .i64 0,(),(),()])[i-j*4]? else u[i]?):Fo E zb zc:=by
 refine⟨O.trans h.1,λv k V J=>?_⟩;rw[U];by_cases e:v=j;subst e;rw[zq Ca,show v*4+k-v*4=k by omega,J3 (λx Z=>by rw[<-H];exact T x Z)];match k,J with
 |0,_=>rfl
 |1,_=>rfl
 |2,_=>rfl
 |3,_=>rfl
 rw[zo Ca];have:=h.2 v k V J;rw[KB (by rw[H];omega)]at this;exact this
def Ae9(w w':Aj)(za p u:Nat)(lv E:Aw)(zb:Nat)(zc:List AH)(J:An):Prop:=∃H,Bm w' za p u H E zb zc J/\H.ownBlock=lv.ownBlock/\Au (Ec p u lv E) w w'
def AgB{W Z w2 za p H g zh O zb zc r aa T}(u:Bm W za p H (.slice (some ⟨g,0,none⟩) (zc.length+1) zh) O zb (zc++[r]) aa) (E:Ae (W.setCell ⟨p,1,none⟩ (.slice (some ⟨g,0,none⟩) zc.length zh)) Z)(ac:Aq w2 H 331 T)(J:Z.grownBy w2 (some H))(ad:Fo T zb zc):Ae9 W w2 za p H (.slice (some ⟨g,0,none⟩) (zc.length+1) zh) O zb zc aa:=by
 obtain⟨aj,U,_⟩:=u.ch;have V:W.grownBy (W.setCell ⟨p,1,none⟩ (.slice (some ⟨g,0,none⟩) zc.length zh)) (some p):=⟨rfl,rfl,rfl,by rw[xf];exact zs _,λk _ ae=>yt W _ _ k (λe=>ae (by rw[e]))⟩;have ab:=(((u.lits.cut (k:=zc.length) (by simp[Az])).kept V (Or.inr (u.lits.ai u.J (by decide)))).ext E).kept J (Or.inr (u.lits.ai U (by decide)));have af:(Az (zc++[r])).take zc.length=Az zc:=by simp[Az]
 rw[af]at ab;have ag:Au (Ec p H (.slice g (zc.length+1) zh) O) W W:=Au.refl _ _;have ah:=u.bh;rw[zu]at ah;exact⟨_,⟨(((u.J.ad 1 (.slice g zc.length zh)).ext E).grown J (by simpa using(u.J.aU U Ax))),⟨T,ac,ad⟩,ab,(((u.be.kept V (Or.inr (u.be.ai u.J Ax))).ext E).kept J (Or.inr (u.be.ai U Ax))),u.ap,u.bp,u.cS,λx E=>u.ok x (yp _ E),Ad,u.cQ,u.bk,u.aA⟩,rfl,(((ag.grown V (λk e=>by cases e;exact Or.inl (Or.inl rfl))).aR E).grown J (λk e=>by cases e;exact Or.inl (Or.inr (Or.inl rfl))))⟩
def AgP(w:Aj)(za p H q:Nat)(lv aa:Aw)(zb:Nat)(zc:List AH)(r:AH)(ab:An)(h:Bm w za p H lv aa zb (zc++[r]) ab)(al:∀x∈zc,Ak x.lit≠Ak r.lit)(J:Aq w q 163 #[.pointer p]):AC 362 #[.pointer q] w λe w'=>e=.returned r.lit/\Ae9 w w' za p H lv aa zb zc ab:=by
 obtain⟨g,zh,rfl,am⟩:=h.lits.full (by simp[Az]);have ac:(Az (zc++[r])).length=zc.length+1:=by simp[Az]
 rw[ac]at am h⊢;have U:=h.bh;rw[zu]at U;have aQ:zc.length<=1000000000:=by simp at U;omega
 clear U;have an:=h.J.cell 0;have ao:=h.J.cell 1;have f1:=h.J.frozen 1;have aq:=J.cell 0;have aR:=h.aA;have ad:=h.ok r AG;obtain⟨au,av,aS,aT,aU,aw⟩:=AU ad;obtain⟨j,V⟩:=y1 (show 0<=Ak r.lit by omega);have aV:j<=zb:=Ad;have aW:(0:Int)<=(j:Int):=Ad;have aX:(j:Int)<(zb:Int)+1:=Ad;have ax:∀W,AC 141 #[r.lit] W λe w'=>e=.returned j/\w'=W:=λW=>(BF r.lit _).mono λe w'⟨ay,az⟩=>⟨by rw[ay,V],az.symm⟩;have aA:w.cell? ⟨g,zc.length,none⟩=some r.lit:=by
  have aB:w.ownsRow za 3 1 (.slice g (zc.length+1) zh) (Az (zc++[r])).length ((Az (zc++[r])).map (Value.int .i64)):=h.lits;have:=aB.cells (g:=g) rfl zc.length r.lit (by simp[Az]);have e:(g:Addr).add zc.length=⟨g,zc.length,none⟩:=by unfold Addr.add;split<;>simp_all
  rwa[e]at this
 have aY:(0:Int)<=(zc.length:Int):=Ad;have aZ:(zc.length:Int)<=(zh:Int):=Ad;have aC:=zk V;clear V au av aw ac ad;go_enter func362,ntmps362;go_wp2;refine Lq 9 AJ AJ λW E=>?_;have O:Ae w W:=by rw[E];grind
 have u:=h.ext O;have aD:=(J.ext O).cell 0;have aE:=u.J.cell 1;have aF:=u.J.frozen 1;clear E aq an ao f1 aA;simp only[List.take_succ_cons,List.take_zero,xp,aai];repeat still_step
 refine wpStill_nil ?_;go_wp2;refine Lq 8 AJ AJ λaG E=>?_;have T:Ae (W.setCell ⟨p,1,none⟩ (.slice g zc.length zh)) aG:=by rw[E];grind
 have aH:q≠p:=J.aU h.J Ax;have ae:=(u.J.ad 1 (.slice g zc.length zh)).ext T;have d0:=ae.cell 0;have a1:=(((J.ext O).ar (p:=⟨p,1,none⟩) aH (.slice g zc.length zh)).ext T).cell 0;obtain⟨aI,Z,af⟩:=u.ch;have aJ:p≠H:=u.J.aU Z Ax;have aK:=(Z.ar (p:=⟨p,1,none⟩) (yb aJ) (.slice g zc.length zh)).ext T;clear E ae aD aE aF Z;simp only[List.take_succ_cons,List.take_zero,xp,aai];repeat still_step
 still_call(ax _);repeat still_step
 refine wpStill_nil ?_;refine KO rfl 331 (.tmp 33) (.tmp 32) rfl H (j*4) rfl #[(),(),(),()] rfl 331 aI aK (by rw[af.1];simp;omega) AJ (by simp;exact rfl) ?_;intro a5 a6 ag ah aj ak;have aL:=AgB u T ag ah (Fo.pop af aj aC al ak);clear ag ah aj ak;go_wp2;go_ret;obtain⟨aM,aN,aO,aP⟩:=aL;exact⟨rfl,aM,aN,aO,Au.ay O aP⟩
def Bm.same{w w' za p u lv E zb zc J}(h:Bm w za p u lv E zb zc J)(H:∀b,b<w.heap.size->Ec p u lv E b->w'.heap[b]? =w.heap[b]?):Bm w' za p u lv E zb zc J:=by
 obtain⟨V,O,Z⟩:=h.ch;have Ox:∀{v}{xs},Ay w za v xs->(∀k,v.ownBlock=some k->Ec p u lv E k)->Ay w' za v xs:=by intro v xs T aa;refine⟨T.1,?_⟩;rcases T.2 with ab|⟨g,zh,ac,rfl,hb,U,rest⟩;exact .inl ab;exact .inr ⟨g,zh,ac,rfl,hb,(H g (z6.1 U).1 (aa g rfl)).trans U,rest⟩
 exact⟨(H p h.J.lt (Or.inl rfl)).trans h.J,⟨V,(H u O.lt (Or.inr (Or.inl rfl))).trans O,Z⟩,Ox h.lits (λk e=>Or.inr (Or.inr (Or.inl e))),Ox h.be (λk e=>Or.inr (Or.inr (Or.inr e))),h.ap,h.bp,h.cS,h.ok,h.bh,h.cQ,h.bk,h.aA⟩
def Bm.lt{w za p u lv E zb zc H}(h:Bm w za p u lv E zb zc H){b}(hb:Ec p u lv E b):za<=b/\b<w:=by obtain⟨O,J,_⟩:=h.ch;rcases hb with rfl|rfl|hb|hb;exact⟨h.bp,h.J.lt⟩;exact⟨h.cS,J.lt⟩;exact h.lits.J b hb;exact h.be.J b hb
def Adb{W za p E g k zh lv zb zc u}(h:Bm W za p E lv (.slice (some ⟨g,0,none⟩) u.length zh) zb zc u)(O:k<=u.length):Bm (W.setCell ⟨p,2,none⟩ (.slice (some ⟨g,0,none⟩) k zh)) za p E lv (.slice (some ⟨g,0,none⟩) k zh) zb zc (u.take k):=by obtain⟨T,H,U⟩:=h.ch;have J:W.grownBy (W.setCell ⟨p,2,none⟩ (.slice (some ⟨g,0,none⟩) k zh)) (some p):=⟨rfl,rfl,rfl,by rw[xf];exact zs _,λj _ V=>yt W _ _ j (λe=>V (by rw[e]))⟩;refine⟨h.J.ad 2 _,⟨T,H.ar (p:=⟨p,2,none⟩) (yb (h.J.aU H (by decide))) _,U⟩,h.lits.kept J (Or.inr (h.lits.ai h.J (by decide))),(h.be.cut O).kept J (Or.inr (h.be.ai h.J (by decide))),h.ap,h.bp,h.cS,h.ok,h.bh,?_,λx Z=>h.bk x (xh Z),h.aA⟩;have:=h.cQ;rw[ya];omega
def Adk(p w):Calls prog 311 #[.pointer (some ⟨p,0,none⟩)] w λe w'=>e=.returned (.func (.func 362) #[] #[.pointer w])/\w'=w.alloc (.cells #[.pointer p] 163):=by go_enter func311,ntmps311;go_wp2;go_ret;exact⟨rfl,rfl⟩
def Ul{zc}(h:zc.Pairwise λa b=>a.level<=b.level)(k):zc.take (Bp zc k).length=Bp zc k/\zc.drop (Bp zc k).length=Fy zc k/\(Bp zc k).length<=zc.length:=by
 have e:=TA h k;refine⟨?_,?_,?_⟩;conv=>lhs;arg 2;rw[e]
 rw[List.take_left];conv=>lhs;arg 2;rw[e]
 rw[List.drop_left];conv=>rhs;rw[e]
 rw[zu];omega
def VH{zc:List AH}(h:(zc.map λr=>Ak r.lit).Nodup){m r}(J:zc[m]? =some r):∀x∈zc.take m,Ak x.lit≠Ak r.lit:=by
 intro x O e;obtain⟨i,hi⟩:=abw.1 O;rw[xb]at hi;split at hi;rename_i T;have u:(zc.map λr=>Ak r.lit)[i]? =some (Ak x.lit):=by rw[yd,hi];rfl
 have E:(zc.map λr=>Ak r.lit)[m]? =some (Ak r.lit):=by rw[yd,J];rfl
 rw[e]at u;have H:=xo.1 h i m (zl.1 u).1 (zl.1 E).1 T;rw[(zl.1 u).2,(zl.1 E).2]at H;exact H rfl;cases hi
def S7(g k):(⟨g,0,none⟩:Addr).add k=⟨g,k,none⟩:=by unfold Addr.add;split<;>simp_all
def Aan{zc:List AH}{m r}(h:zc[m]? =some r):(Az (zc.drop m)).reverse=(Az (zc.drop (m+1))).reverse++[r.lit]:=by obtain⟨u,e⟩:=zl.1 h;rw[y8 u,e];unfold Az;rw[xn,List.reverse_cons]
def MS(zc:List AH)(m):((Az (zc.drop m)).reverse).length=zc.length-m:=by simp[Az]
def Ec.same{p u lv E H}(e:E.ownBlock=lv.ownBlock)(b):Ec p u E H b↔Ec p u lv H b:=by unfold Ec;rw[e]
def Ay.bK{w a b v xs}(h:Ay w b v xs)(H:a<=b):Ay w a v xs:=by refine⟨h.1,?_⟩;rcases h.2 with u|⟨g,zh,E,rfl,hb,rest⟩;exact .inl u;exact .inr ⟨g,zh,E,rfl,Ad,rest⟩
def Ot(u:Array Value)(zb:Nat)(f:Nat->Int):Prop:=u.size=zb+1/\∀v,v<=zb->u[v]? =some (.int .i64 (f v))
def Ot.set{E zb f}(h:Ot E zb f)(v x):Ot (E.setIfInBounds v (.int .i64 x)) zb (F6 f v x):=by refine⟨by simpa using h.1,λu H=>?_⟩;by_cases e:u=v;subst e;rw[ab7,zq (by rw[h.1];omega),Fp];rw[xd (yb e),Eb _ _ e];exact h.2 u H
structure BO(w)(p gs gp)(rv)(zb)(sc pl)(ze):Prop where
 J:Aq w p 240 #[.slice (some ⟨gs,0,none⟩) (zb+1) (zb+1),rv,.slice (some ⟨gp,0,none⟩) (zb+1) (zb+1)]
 bW:∃cs,Aq w gs 3 cs/\Ot cs zb sc
 bL:∃cs,Aq w gp 3 cs/\Ot cs zb pl
 own:Ay w 0 rv ze
 aA:zb<=900
 bO:∀v,v<=zb->0<=sc v/\sc v<=2000000000000
 cG:∀v,v<=zb->-1<=pl v/\pl v<=1000
 ne:gs≠gp
 bS:rv.ownBlock≠some gs
 bH:rv.ownBlock≠some gp
 bx:ze.length<=901
 cr:∀x∈ze,0<=x/\x<=1000
def El(p gs gp:Nat)(rv:Aw)(b:Nat):Prop:=b=p\/b=gs\/b=gp\/rv.ownBlock=some b
section
variable{w w':World}{p gs gp:Nat}{rv:Value}{zb:Nat}{sc pl:Nat->Int}{ze:List Int}
theorem BO.ext(h:BO w p gs gp rv zb sc pl ze)(u:Ae w w'):BO w' p gs gp rv zb sc pl ze:=⟨h.J.ext u,let⟨E,a,b⟩:=h.bW;⟨E,a.ext u,b⟩,let⟨E,a,b⟩:=h.bL;⟨E,a.ext u,b⟩,h.own.ext u,h.aA,h.bO,h.cG,h.ne,h.bS,h.bH,h.bx,h.cr⟩
theorem BO.ct(h:BO w p gs gp rv zb sc pl ze){v}(u:v<=zb):w.cell? ⟨gs,v,none⟩=some (.int .i64 (sc v)):=by obtain⟨E,a,b⟩:=h.bW;rw[a.cell];exact b.2 v u
theorem BO.cI(h:BO w p gs gp rv zb sc pl ze){v}(u:v<=zb):w.cell? ⟨gp,v,none⟩=some (.int .i64 (pl v)):=by obtain⟨E,a,b⟩:=h.bL;rw[a.cell];exact b.2 v u
theorem Ay.bm{w b g n zh j xs x}(h:Ay w b (.slice (some ⟨g,0,none⟩) n zh) xs)(u:xs[j]? =some x):w.cell? ⟨g,j,none⟩=some (.int .i64 x):=by
 have:=h.cells (g:=g) rfl j (.int .i64 x) (by rw[yd,u];rfl);have e:(⟨g,0,none⟩:Addr).add j=⟨g,j,none⟩:=by unfold Addr.add;split<;>simp_all
 rwa[e]at this
theorem Ay.cN{w b g n zh j xs y}(h:Ay w b (.slice (some ⟨g,0,none⟩) n zh) xs):Ay (w.setCell ⟨g,j,none⟩ (.int .i64 y)) b (.slice (some ⟨g,0,none⟩) n zh) (xs.set j y):=by have u:=h.aL;subst u;unfold Ay;rw[xj,List.map_set];exact(abh h j (.int .i64 y)).1
theorem Ay.cx{w b g n zh xs}(h:Ay w b (.slice (some ⟨g,0,none⟩) n zh) xs)(j):w.frozen? ⟨g,j,none⟩=false:=by rcases h.2 with⟨e,_⟩|⟨J,O,E,e,hb,H,_⟩;cases e;injection e with u T U;injection u with u;injection u with u;subst u;exact Aq.frozen (show Aq w g _ E from H) j
theorem BO.full(h:BO w p gs gp rv zb sc pl ze)(u:ze≠[]):∃g zh,rv=.slice (some ⟨g,0,none⟩) ze.length zh/\ze.length<=zh/\g≠gs/\g≠gp/\g≠p/\(∀j x,ze[j]? =some x->w.cell? ⟨g,j,none⟩=some (.int .i64 x))/\∀j,w.frozen? ⟨g,j,none⟩=false:=by obtain⟨g,zh,rfl,E⟩:=h.own.full u;have H:g≠gs:=λe=>h.bS (by rw[e];rfl);have J:g≠gp:=λe=>h.bH (by rw[e];rfl);have O:g≠p:=λe=>h.own.ai h.J (by decide) (by rw[e];rfl);exact⟨g,zh,rfl,E,H,J,O,λj x T=>h.own.bm T,λj=>h.own.cx j⟩
end
def Kp(p gs m c w)(h:w.cell? ⟨p,0,none⟩=some (.slice (some ⟨gs,0,none⟩) (m+1) c))(u:m<=1000):Calls prog 258 #[.pointer (some ⟨p,0,none⟩)] w λe w'=>e=.returned (.bool true)/\w=w':=by go_enter func258,ntmps258;go_wp2;go_ret;exact⟨rfl,rfl⟩
def QY(zb:Nat)(v:Int):Bool:=decide (1<=v/\v<=zb)
def Aa8(p gs m c v w)(h:w.cell? ⟨p,0,none⟩=some (.slice (some ⟨gs,0,none⟩) (m+1) c))(H:m<=1000):Calls prog 292 #[.pointer (some ⟨p,0,none⟩),.int .i64 v] w λe w'=>e=.returned (.bool (QY m v))/\w=w':=by
 by_cases J:1<=v
 . by_cases O:v<(m:Int)+1;focus have u:QY m v=true:=zt ⟨J,by omega⟩;have E:=zk u;clear u
   rotate_left;focus have u:QY m v=false:=zn (by omega);have E:=zk u;have T:=zn O;clear u O
   all_goals
    go_enter func292,ntmps292;go_wp2_with(go_at_call 258;refine(Kp _ _ _ _ _ h H).mono ?_;rintro e w'⟨rfl,rfl⟩)
    go_ret;exact⟨Bo E.symm,rfl⟩
 have u:QY m v=false:=zn (by omega);have E:=zk u;have T:=zn J;go_enter func292,ntmps292;go_wp2_with(go_at_call 258;refine(Kp _ _ _ _ _ h H).mono ?_;rintro e w'⟨rfl,rfl⟩)
 go_ret;exact⟨Bo E.symm,rfl⟩
def RB(p gs m c)(v:Int)(w:World)(h:w.cell? ⟨p,0,none⟩=some (.slice (some ⟨gs,0,none⟩) (m+1) c))(u:m<=1000)(E:1<=v)(H:v<=m):AC 219 #[.pointer p,v] w λe w'=>e=.returned (.int .i64 0)/\w=w':=by
 have J:QY m v=true:=zt ⟨E,H⟩;go_enter func219,ntmps219;go_wp2_with(first
  |(go_at_call 258;refine(Kp _ _ _ _ _ h u).mono ?_;rintro e w'⟨rfl,rfl⟩)
  |(go_at_call 292;refine(Aa8 _ _ _ _ _ _ h u).mono ?_;rintro e w'⟨rfl,rfl⟩))
 go_ret;exact⟨rfl,rfl⟩
section
variable{w w':World}{p gs gp:Nat}{rv:Value}{zb:Nat}{sc pl:Nat->Int}{ze:List Int}
theorem AfQ(w v)(h:BO w p gs gp rv zb sc pl ze)(O:1<=v)(u:v<=zb):AC 220 #[.pointer p,v] w λe w'=>e=.returned (.bool (decide (0<=pl v)))/\w=w':=by
 have E:QY zb v=true:=zt ⟨Ad,Ad⟩;have T:=h.J.cell 2;have H:=h.cI u;have U:=h.aA;generalize pl v=z at H⊢;have J:=zk E;go_enter func220,ntmps220;go_wp2_with(go_at_call 292;refine(Aa8 _ _ _ _ _ _ (h.J.cell 0) Ad).mono ?_;rintro e w'⟨rfl,rfl⟩;rw[J.out])
 go_ret;exact⟨rfl,rfl⟩
theorem WO(w)(h:BO w p gs gp rv zb sc pl ze):AC 164 #[.pointer p] w λe w'=>e=.returned (.int .i64 (ze.length:Nat))/\w=w':=by
 obtain⟨A,n,c,rfl⟩:=h.own.form;have u:=h.own.aL;have E:=h.J.cell 1;have H:=h.aA;rw[<-u];go_enter func164,ntmps164;go_wp2_with(go_at_call 258;refine(Kp _ _ _ _ _ (h.J.cell 0) Ad).mono ?_;rintro e w'⟨rfl,rfl⟩)
 go_ret;exact⟨rfl,rfl⟩
theorem Adf(w v)(H:BO w p gs gp rv zb sc pl ze)(u:ze[0]? =some v):Calls prog 259 #[.pointer (some ⟨p,0,none⟩)] w λe w'=>e=.returned (.int .i64 v)/\w=w':=by
 have E:ze≠[]:=λe=>by rw[e]at u;cases u
 obtain⟨g,zh,rfl,T,_,_,_,J,_⟩:=H.full E;have U:=H.J.cell 1;have d0:=J 0 v u;have O:0<ze.length:=by
  cases ze with
  |nil=>exact absurd rfl E
  |cons a t=>simp
 have V:(0:Int)<(ze.length:Int):=Ad;clear u J E O;go_enter func259,ntmps259;go_wp2_with(go_at_call 164;refine(WO _ H).mono ?_;rintro e w'⟨rfl,rfl⟩)
 go_ret;exact⟨rfl,rfl⟩
def Aft(w:World)(e:Ending)(w':World):Prop:=∃b,e=.returned (.bool b)/\∃m,w'=w.drewN m
theorem QJ(w u v)(h:BO w p gs gp rv zb sc pl ze)(E:u<=zb)(H:v<=zb):AC 293 #[.pointer p,u,v] w (Aft w):=by
 have U:=h.J.cell 0;have J:=h.ct E;have O:=h.ct H;generalize sc u=x at J;generalize sc v=y at O;by_cases T:x=y
 . subst T;go_enter func293,ntmps293;go_wp2;go_quiet(fail);go_wp2;go_ret;exact⟨_,rfl,_,rfl⟩
 . go_enter func293,ntmps293;go_wp2;go_quiet(fail);go_wp2;go_quiet(fail);go_wp2;go_ret;exact⟨_,rfl,_,World.drewN_drewN ..⟩
def CY(w w':Aj)(p gs gp:Nat)(rv:Aw)(zb:Nat)(sc pl:Nat->Int)(ze:An):Prop:=∃rv',BO w' p gs gp rv' zb sc pl ze/\Au (El p gs gp rv) w w'/\∀b,El p gs gp rv' b->El p gs gp rv b\/w<=b
theorem CY.refl(h:BO w p gs gp rv zb sc pl ze):CY w w p gs gp rv zb sc pl ze:=⟨rv,h,Au.refl _ _,λ_ hb=>.inl hb⟩
theorem CY.trans{u w2 rv1}(E:Au (El p gs gp rv) w u)(H:∀b,El p gs gp rv1 b->El p gs gp rv b\/w<=b) (k:CY u w2 p gs gp rv1 zb sc pl ze):CY w w2 p gs gp rv zb sc pl ze:=by obtain⟨rv',J,O,T⟩:=k;refine⟨rv',J,E.trans O (λj V U=>?_),λb hb=>?_⟩;rcases H j U with h|h;exact h;omega;rcases T b hb with h|h;exact H b h;exact .inr (z7 E.size h)
theorem AbL(h:BO w p gs gp rv zb sc pl ze){g zh i v}(O:rv=.slice (some ⟨g,0,none⟩) ze.length zh)(hi:i<ze.length)(ad:v<=zb):BO ((w.setCell ⟨g,i,none⟩ (.int .i64 v)).setCell ⟨gp,v,none⟩ (.int .i64 i)) p gs gp rv zb sc (F6 pl v i) (ze.set i v)/\Au (El p gs gp rv) w ((w.setCell ⟨g,i,none⟩ (.int .i64 v)).setCell ⟨gp,v,none⟩ (.int .i64 i)):=by subst O;have T:g≠gs:=λe=>h.bS (by rw[e];rfl);have H:g≠gp:=λe=>h.bH (by rw[e];rfl);have U:g≠p:=λe=>h.own.ai h.J (by decide) (by rw[e];rfl);obtain⟨V,Z,aa⟩:=h.bW;obtain⟨ae,J,ab⟩:=h.bL;have af:=h.bx;refine⟨⟨(h.J.ar (p:=⟨g,i,none⟩) (yb U) _).ar (p:=⟨gp,v,none⟩) (h.J.aU J (by decide)) _,⟨V,(Z.ar (p:=⟨g,i,none⟩) (yb T) _).ar (p:=⟨gp,v,none⟩) h.ne _,aa⟩,⟨_,(J.ar (p:=⟨g,i,none⟩) (yb H) _).ad v _,ab.set v i⟩,?_,h.aA,h.bO,λu ac=>?_,h.ne,h.bS,h.bH,by rw[xj];exact h.bx,λx E=>?_⟩,?_⟩;exact(h.own.cN (j:=i) (y:=v)).setCell (p:=⟨gp,v,none⟩) (λk e=>by cases e;exact H) _;by_cases e:u=v;subst e;rw[Fp];omega;rw[Eb _ _ e];exact h.cG u ac;rcases aav E with E|rfl;exact h.cr x E;have:=h.aA;omega;exact((Au.refl _ w).setCell (Or.inl (Or.inr (Or.inr (Or.inr rfl)))) _).setCell (Or.inl (Or.inr (Or.inr (Or.inl rfl)))) _
theorem Je(w i v)(h:BO w p gs gp rv zb sc pl ze)(hi:i<ze.length)(u:v<=zb):AC 260 #[.pointer p,i,v] w λe w'=>e=.returned (.tuple #[])/\CY w w' p gs gp rv zb sc (F6 pl v i) (ze.set i v):=by
 have J:ze≠[]:=λe=>by rw[e]at hi;simp at hi
 obtain⟨g,zh,E,aa,ab,ac,ad,O,T⟩:=h.full J;have H:=AbL h E hi u;have U:=h.J.cell 1;have ae:=h.cI u;obtain⟨af,V,_⟩:=h.bL;have ag:=V.frozen v;have ah:=T i;have Z:=O i _ (zr hi);have aj:=h.J.cell 2;rw[E]at U;generalize ze[i]=y at Z;generalize ze.length=n at *;go_enter func260,ntmps260;go_wp2;go_end0;exact⟨rfl,rv,H.1,H.2,λb hb=>.inl hb⟩
end
section
variable{w w':World}{p gs gp:Nat}{rv:Value}{zb:Nat}{sc pl:Nat->Int}{ze:List Int}
def Yl(p gs gp:Nat)(rv:Aw)(zb:Nat)(sc:Nat->Int)(ze:An)(w:Aj)(e:Bz)(w':Aj):Prop:=∃u row',e=.returned (.tuple #[])/\CY w w' p gs gp rv zb sc u row'/\Dm u zb row'/\row'.Perm ze
def QD(p gs gp:Nat)(rv:Aw)(zb:Nat)(sc:Nat->Int)(ze:An)(v:Nat)(w:Aj)(j:Nat)(w':Aj):Prop:=∃u row1,CY w w' p gs gp rv zb sc u row1/\C3 u zb row1 j v/\(row1.set j v).Perm ze
theorem ZC(w:Aj)(i v:Nat)(h:BO w p gs gp rv zb sc pl ze)(U:C3 pl zb ze i v)(aa:ze[i]? =some (v:Int)):AC 221 #[.pointer p,i] w (Yl p gs gp rv zb sc ze w):=by
 have ax:=U.dd;have V:v<=zb:=Ad;have ab:=U.lt;have aj:ze≠[]:=λe=>by rw[e]at ab;simp at ab
 have aI:=h.bx;have ay:QD p gs gp rv zb sc ze v w i w:=⟨pl,ze,CY.refl h,U,by have:=(zl.1 aa).2;rw[<-this,acn]⟩;obtain⟨g,zh,rfl,az,aA,aJ,aK,ak,aB⟩:=h.full aj;have ac:=h.J.cell 1;have d0:=ak i _ aa;have aL:(0:Int)<=(i:Int):=Ad;have aC:(i:Int)<(ze.length:Int):=Ad;clear ak aB U aa h aj ax;have aM:Hid (ze.length=ze.length):=zk rfl;generalize al:ze.length=n at ac aC az;have ad:=zk al;clear al;go_enter func221,ntmps221;go_wp2;go_loopw[1](λi wr=>∃j:Nat,i=j/\j<=1000/\QD p gs gp (.slice g n zh) zb sc ze v w j wr)(λi _=>(intOf i).toNat);case atStart=>exact⟨i,rfl,by have:=ab;omega,by have:=ay;rw[ad.out]at this;exact this⟩
 case round=>
  obtain⟨j,rfl,aN,aO,row1,⟨rv1,E,ae,af⟩,J,ag⟩:=hrel;have H:=J.lt;have ah:row1≠[]:=λe=>by rw[e]at H;simp at H
  have aP:=λW(aD:Ae wr W)=>Je W j v (E.ext aD) H V;by_cases am:0<j;obtain⟨k,aE⟩:∃k:Nat,k=(j-1)/2:=⟨_,rfl⟩;have aQ:k<j:=Ad;have aR:((j:Int)-1)/2=(k:Int):=Ad;have an:k<row1.length:=Ad;obtain⟨u0,Z⟩:∃u0,row1[k]? =some u0:=⟨_,zr an⟩;obtain⟨u1,u2,u3⟩:=J.other Z Ad;obtain⟨u,rfl⟩:=y1 (show 0<=u0 by omega);have ao:u<=zb:=Ad;obtain⟨aS,aT,aq,aF,_,_,_,au,aG⟩:=E.full ah;have av:=E.J.cell 1;rw[aq]at av;have d1:=au k _ Z;have aU:(0:Int)<=(k:Int):=Ad;have aH:(k:Int)<(row1.length:Int):=Ad;have aw:=J.move Z Ad;clear au aG aq Z u3 aE ah d0 ac an;generalize row1.length=aA at av aF aH;go_wp2_with(first
   |(go_at_call 293;(with_reducible refine(QJ _ v u E V ao).mono ?_);rintro e w'⟨b,rfl,m,rfl⟩)
   |(go_at_call 260;(with_reducible refine(Je _ j u (E.ext ((Ae.refl _).drewN _)) H ao).mono ?_);rintro e w2⟨rfl,O⟩)
   |(go_at_call 260;(with_reducible refine(Je _ j v (E.ext ((Ae.refl _).drewN _)) H V).mono ?_);rintro e w2⟨rfl,O⟩))
  go_roundw;case rel=>exact⟨k,by go_num,Ad,_,_,(CY.trans (ae.drewN m) af O),aw.1,aw.2.trans ag⟩
  case measure=>simp[intOf];omega
  have T:=CY.trans (ae.drewN m) af O;go_end0;rw[<-ad.out]at T;exact⟨_,_,rfl,T,J.fill,ag⟩;clear ah d0 ac;have aV:decide (0<j)=false:=zn am;clear am;go_wp2_with(go_at_call 260;(with_reducible refine(Je _ j v E H V).mono ?_);rintro e w2⟨rfl,O⟩)
  have T:=CY.trans ae af O;go_end0;rw[<-ad.out]at T;exact⟨_,_,rfl,T,J.fill,ag⟩
end
def C3.put{pl:Nat->Int}{zb:Nat}{ze:An}{i:Nat}{v:Int}(h:C3 pl zb ze i v):C3 pl zb (ze.set i v) i v:=⟨by rw[xj];exact h.lt,by rw[ado];exact h.aj,by rw[ado];exact h.aN,by rw[ado];exact h.at_,by rw[ado];exact h.no⟩
section
variable{w w':World}{p gs gp:Nat}{rv:Value}{zb:Nat}{sc pl:Nat->Int}{ze:List Int}
theorem Aa0(h:BO w p gs gp rv zb sc pl ze){g zh i v:Nat}(E:rv=.slice g ze.length zh)(ac:v<=zb):BO (w.setCell ⟨g,i,none⟩ v) p gs gp rv zb sc pl (ze.set i v)/\Au (El p gs gp rv) w (w.setCell ⟨g,i,none⟩ v):=by subst E;have H:g≠gs:=λe=>h.bS (by rw[e];rfl);have J:g≠gp:=λe=>h.bH (by rw[e];rfl);have O:g≠p:=λe=>h.own.ai h.J Ax (by rw[e];rfl);obtain⟨T,U,V⟩:=h.bW;obtain⟨Z,aa,ab⟩:=h.bL;refine⟨⟨h.J.ar (p:=⟨g,i,none⟩) (yb O) _,⟨T,U.ar (p:=⟨g,i,none⟩) (yb H) _,V⟩,⟨Z,aa.ar (p:=⟨g,i,none⟩) (yb J) _,ab⟩,h.own.cN (j:=i) (y:=v),h.aA,h.bO,h.cG,h.ne,h.bS,h.bH,by rw[xj];exact h.bx,λx u=>?_⟩,(Au.refl _ w).setCell (Or.inl (Or.inr (Or.inr (Or.inr rfl)))) _⟩;rcases aav u with u|rfl;exact h.cr x u;have:=h.aA;omega
def Aiv(ze:An)(j v u at_:Nat):Prop:=(u=v/\at_=j)\/(j<at_/\ze[at_]? =some (u:Int))
theorem TY(w:Aj)(i v:Nat)(h:BO w p gs gp rv zb sc pl ze)(O:C3 pl zb ze i v)(ac:ze[i]? =some (v:Int)):AC 261 #[.pointer p,i] w (Yl p gs gp rv zb sc ze w):=by
 have aN:=O.dd;have ad:v<=zb:=Ad;have ae:=O.lt;have an:ze≠[]:=λe=>by rw[e]at ae;simp at ae
 have aO:=h.bx;have aP:QD p gs gp rv zb sc ze v w i w:=⟨pl,ze,CY.refl h,O,by have:=(zl.1 ac).2;rw[<-this,acn]⟩;have bd:=h.aA;obtain⟨g,zh,ao,aQ,be,bf,bh,aq,aR⟩:=h.full an;have J:=h.J.cell 1;rw[ao]at J;have d0:=aq i _ ac;have aS:(0:Int)<=(i:Int):=Ad;have au:(i:Int)<(ze.length:Int):=Ad;clear aq aR O ac h an aN ao;generalize aT:ze.length=n at J au aQ aO ae;clear aT;go_enter func261,ntmps261;go_wp2;go_loopw[1](λi wr=>∃j:Nat,i=j/\QD p gs gp rv zb sc ze v w j wr)(λi _=>1000-(intOf i).toNat);case atStart=>exact⟨i,rfl,aP⟩
 case round=>
  clear J d0 aS au;obtain⟨j,rfl,bi,row1,⟨rv1,H,av,aw⟩,T,ax⟩:=hrel;have U:=T.lt;have ay:row1≠[]:=λe=>by rw[e]at U;simp at U
  have bj:=H.bx;obtain⟨bk,bn,af,br,bt,ag,bu,az,aA⟩:=H.full ay;have J:=H.J.cell 1;rw[af]at J;have bw:=zk af;have aU:=zk az;have bx:=zk aA;have bz:(0:Int)<=(j:Int):=Ad;have bA:(j:Int)<=1000:=Ad;have bB:(row1.length:Int)<=1000:=Ad;clear af az aA ay;obtain⟨ah,rfl⟩:∃ah:Aj,ah=wr:=⟨_,rfl⟩;go_wp2;go_loopw[5,6,25](λb a c aV=>∃E at_ c':Nat,b=E/\a=at_/\c=c'/\c'<=2/\E<=zb/\Aiv row1 j v E at_/\∃m,aV=ah.drewN m)(λ_ _ c _=>2-(intOf c).toNat);case atStart=>exact⟨v,j,0,rfl,rfl,rfl,Ad,ad,.inl ⟨rfl,rfl⟩,0,rfl⟩
  case round=>
   obtain⟨E,at_,c',rfl,rfl,rfl,aB,V,aj,m,rfl⟩:=hrel;skip;by_cases aC:c'<2
   . obtain⟨k,aD⟩:∃k:Nat,k=2*j+1+c':=⟨_,rfl⟩;have aE:j<k:=Ad;by_cases Z:k<row1.length
     . obtain⟨u0,aa⟩:∃u0,row1[k]? =some u0:=⟨_,zr Z⟩;obtain⟨u1,u2,u3⟩:=T.other aa Ad;obtain⟨u,rfl⟩:=y1 (show 0<=u0 by omega);have aF:u<=zb:=Ad;have d1:=aU k _ aa;have aW:=zk aa;have aX:(0:Int)<=(k:Int):=Ad;have aY:(k:Int)<(row1.length:Int):=Ad;have aZ:decide (k<row1.length)=true:=zt Z;have a1:∀W:Aj,(Instr.index 149 (.agg #[.int .i64 (2*(j:Int)+1),.int .i64 (2*(j:Int)+2)]) c').run prog W=.ok k W:=λW=>by rcases(show c'=0\/c'=1 by omega)with rfl|rfl;have e:(k:Int)=2*(j:Int)+1:=Ad;rw[e];rfl;have e:(k:Int)=2*(j:Int)+2:=Ad;rw[e];rfl
       clear aa u3 aD;go_wp2_with(go_at_call 293;(with_reducible refine(QJ _ u E (H.ext ((Ae.refl _).drewN _)) aF V).mono ?_);rintro e w'⟨b,rfl,ag,rfl⟩)
       go_roundw;case rel=>exact⟨u,k,c'+1,rfl,rfl,by go_num,Ad,aF,.inr ⟨aE,aW⟩,m+ag,rfl⟩
       case measure=>simp[intOf];omega
       . go_roundw;case rel=>exact⟨E,at_,c'+1,rfl,rfl,by go_num,Ad,V,aj,m+ag,rfl⟩
         case measure=>simp[intOf];omega
     . have a1:∀W:Aj,(Instr.index 149 (.agg #[.int .i64 (2*(j:Int)+1),.int .i64 (2*(j:Int)+2)]) c').run prog W=.ok k W:=λW=>by
        rcases(show c'=0\/c'=1 by omega)with rfl|rfl
        . have e:(k:Int)=2*(j:Int)+1:=Ad;rw[e];rfl
        . have e:(k:Int)=2*(j:Int)+2:=Ad;rw[e];rfl
       have aZ:decide (k<row1.length)=false:=zn Z;have aX:(0:Int)<=(k:Int):=Ad;have aY:(k:Int)<=3000:=Ad;clear aD Z aE;go_wp2;go_roundw;case rel=>exact⟨E,at_,c'+1,rfl,rfl,by go_num,Ad,V,aj,m,rfl⟩
       case measure=>simp[intOf];omega
   . have bC:decide ((c':Int)<2)=false:=zn Ad;rcases aj with⟨rfl,rfl⟩|⟨a5,ak⟩;clear aC;go_wp2_with(go_at_call 260;(with_reducible refine(Je _ at_ E (H.ext ((Ae.refl _).drewN _)) U ad).mono ?_);rintro e w2⟨rfl,a6⟩)
     have a7:=CY.trans (av.drewN m) aw a6;go_end0;exact⟨_,_,rfl,a7,T.fill,ax⟩;have a8:at_<row1.length:=(zl.1 ak).1;have bD:((at_:Int)==(j:Int))=false:=yv.2 Ad;have aG:=T.move ak Ad;have aH:(row1.set j (E:Int)).length=row1.length:=xj;have ab:=zk aH;have a0:(0:Int)<=(at_:Int):=Ad;have bE:(at_:Int)<(row1.length:Int):=Ad;clear ak a8 aH aC;go_wp2_with fail
     refine(Je _ j E (H.ext ((Ae.refl _).drewN _)) U V).mono ?_;rintro e w2⟨rfl,a9,al,ba,aI⟩;obtain⟨bF,bG,am,aB,bH,bI,bJ,aJ,aK⟩:=al.full (λe=>by have:=ab.out;rw[e]at this;simp at this;omega);have bc:=al.J.cell 1;rw[am,ab.out]at bc;rw[ab.out]at aB;obtain⟨y,aL⟩:∃y,(row1.set j (E:Int))[at_]? =some y:=⟨_,zr (by rw[ab.out];omega)⟩;have d2:=aJ at_ _ aL;clear aL;have bK:=aK at_;have aM:=Aa0 (i:=at_) al am ad;clear aJ aK am;go_wp2;go_roundw;case rel=> refine⟨at_,rfl,_,_,CY.trans (av.drewN m) aw ⟨a9,aM.1,ba.trans aM.2 (λb bL hb=>?_),aI⟩,aG.1.put,by rw[ado];exact aG.2.trans ax⟩;rcases aI b hb with g|g;exact g;omega
     case measure=> have bM:=a5;simp[intOf];omega
end
section
variable{w w':World}{p gs gp:Nat}{rv:Value}{zb:Nat}{sc pl:Nat->Int}{ze:List Int}
theorem AaJ(w:Aj)(h:BO w p gs gp rv zb sc pl ze)(Z:Dm pl zb ze):AC 294 #[.pointer p] w (Yl p gs gp rv zb sc ze w):=by
 obtain⟨A,n,c,E⟩:=h.own.form;have aa:n=ze.length:=by have:=h.own.aL;rw[E]at this;exact this
 have ab:=h.J.cell 1;rw[E]at ab;have ac:=h.bx;obtain⟨m,aq⟩:∃m:Nat,(n:Int)/2=(m:Int):=⟨n/2,Ad⟩;have ad:m<=ze.length:=Ad;have au:(0:Int)<=(m:Int):=Ad;have av:(m:Int)<=1000:=Ad;have ae:=CY.refl h;have aw:(n:Int)<=1000:=Ad;clear h E aa ac;go_enter func294,ntmps294;go_wp2;go_loopw[2](λi wr=>∃j:Nat,i=.int .i64 ((j:Int)-1)/\j<=ze.length/\∃u row1,CY w wr p gs gp rv zb sc u row1/\Dm u zb row1/\row1.Perm ze)(λi _=>(intOf i+1).toNat);case atStart=>exact⟨m,rfl,ad,pl,ze,ae,Z,abb _⟩
 case round=>
  obtain⟨j,rfl,af,u,row1,⟨rv1,H,U,V⟩,J,O⟩:=hrel;have ax:=H.bx;have ay:=O.length_eq;by_cases az:1<=j;obtain⟨k,rfl⟩:∃k,j=k+1:=⟨j-1,Ad⟩;obtain⟨v0,T⟩:∃v0,row1[k]? =some v0:=⟨_,zr Ad⟩;obtain⟨v1,aA⟩:=J.aN v0 (zm T);obtain⟨v,rfl⟩:=y1 (show 0<=v0 by omega);have ag:=J.hole T;have ah:=zk T;have aj:((k+1:Nat):Int)-1=(k:Int):=Ad;rw[aj];have aB:=af;go_wp2_with fail
  refine(TY _ k v H ag ah).mono ?_;rintro e w2⟨ak,al,rfl,am,an,ao⟩;go_wp2;go_roundw;case rel=>exact⟨k,rfl,Ad,ak,al,CY.trans U V am,an,ao.trans O⟩
  case measure=>simp[intOf]<;>omega
  obtain rfl:j=0:=Ad;go_wp2;go_end0;exact⟨u,row1,rfl,⟨rv1,H,U,V⟩,J,O⟩
theorem OS(h:BO w p gs gp rv zb sc pl ze)(v:Nat){x:Int}(H:0<=x/\x<=2000000000000):BO (w.setCell ⟨gs,v,none⟩ x) p gs gp rv zb (F6 sc v x) pl ze/\Au (El p gs gp rv) w (w.setCell ⟨gs,v,none⟩ x):=by obtain⟨Z,E,J⟩:=h.bW;obtain⟨O,T,U⟩:=h.bL;refine⟨⟨h.J.ar (p:=⟨gs,v,none⟩) (h.J.aU E Ax) _,⟨_,E.ad v _,J.set v x⟩,⟨O,T.ar (p:=⟨gs,v,none⟩) (yb h.ne) _,U⟩,h.own.setCell (p:=⟨gs,v,none⟩) (λk e g=>by subst g;exact h.bS e) _,h.aA,λu V=>?_,h.cG,h.ne,h.bS,h.bH,h.bx,h.cr⟩,(Au.refl _ w).setCell (Or.inl (Or.inr (Or.inl rfl))) _⟩;by_cases e:u=v;subst e;rw[Fp];exact H;rw[Eb _ _ e];exact h.bO u V
def KN(w:Aj)(p gs gp:Nat)(rv:Aw)(zb:Nat)(ze:An):Prop:=∃sc pl,BO w p gs gp rv zb sc pl ze/\Dm pl zb ze/\∀v:Nat,v<=zb->sc v<=1000000000000
def Adu(w w':Aj)(p gs gp:Nat)(rv:Aw)(zb:Nat)(ze:An):Prop:=∃rv',KN w' p gs gp rv' zb ze/\Au (El p gs gp rv) w w'/\∀b,El p gs gp rv' b->El p gs gp rv b\/w<=b
def AhT(p gs gp:Nat)(rv:Aw)(zb:Nat)(ze:An)(w:Aj)(e:Bz)(w':Aj):Prop:=∃row',e=.returned (.tuple #[])/\Adu w w' p gs gp rv zb row'/\row'.Perm ze
def JZ(sc:Nat->Int)(k:Nat):Nat->Int:=λu=>if u<k then sc u/2 else sc u
theorem Yr(sc:Nat->Int)(k:Nat):F6 (JZ sc k) k (sc k/2)=JZ sc (k+1):=by funext u;unfold F6 JZ;by_cases e:u=k;subst e;rw[zq rfl,zq Ad];rw[zo e];by_cases h:u<k;rw[zq h,zq Ad];rw[zo h,zo Ad]
theorem NJ(w:Aj)(H:BO w p gs gp rv zb sc pl ze)(ab:Dm pl zb ze):AC 222 #[.pointer p] w (AhT p gs gp rv zb ze w):=by
 have J:=H.J.cell 0;have av:=H.aA;skip;go_enter func222,ntmps222;go_wp2_with(go_at_call 258;refine(Kp _ _ _ _ _ J Ad).mono ?_;rintro e w'⟨rfl,rfl⟩)
 go_loopw[11](λi wr=>∃k:Nat,i=k/\k<=zb+1/\BO wr p gs gp rv zb (JZ sc k) pl ze/\Au (El p gs gp rv) w wr)(λi _=>zb+1-(intOf i).toNat);case atStart=>exact⟨0,rfl,Ad,by have:JZ sc 0=sc:=by{funext u;unfold JZ;rw[zo Ad]};rw[this];exact H,Au.refl _ _⟩
 case round=>
  clear J;obtain⟨k,rfl,ac,E,O⟩:=hrel;have J:=E.J.cell 0;by_cases aw:k<zb+1
  . have V:=E.ct (v:=k) Ad;have hb:=E.bO k Ad;obtain⟨ax,Z,ad⟩:=E.bW;have ay:=Z.frozen k;have aa:JZ sc k k=sc k:=by unfold JZ;rw[zo Ad]
    rw[aa]at V hb;obtain⟨ae,af⟩:=hb;have T:=OS E k (x:=sc k/2) Ad;rw[Yr]at T;have U:=T;have az:(0:Int)<=(k:Int):=Ad;have aA:(k:Int)<(zb:Int)+1:=Ad;generalize sc k=z at V ae af U;clear T E Z ad aa ac;go_wp2;go_roundw;case rel=>exact⟨k+1,by go_num,Ad,U.1,O.trans U.2 (λb _ hb=>hb)⟩
    case measure=>simp[intOf]<;>omega
  . have ag:=zk E;clear E;go_wp2_with fail
    refine(AaJ _ ag ab).mono ?_;rintro e w2⟨ah,aj,rfl,⟨ak,al,am,an⟩,ao,aq⟩;skip;go_wp2;go_end0;refine⟨aj,rfl,⟨ak,⟨_,ah,al,ao,λv au=>?_⟩,O.trans am (λb _ hb=>hb),λb hb=>?_⟩,aq⟩;have:=H.bO v au;unfold JZ;rw[zq Ad];omega;rcases an b hb with g|g;exact .inl g;exact .inr (z7 O.size g)
end
def It(w:Aj)(gs v:Nat):Nat:=match w.cell? ⟨gs,v,none⟩with|some (.int _ z)=>z.toNat|_=>0
section
variable{w w':World}{p gs gp:Nat}{rv:Value}{zb:Nat}{sc pl:Nat->Int}{ze:List Int}
theorem KN.ext(h:KN w p gs gp rv zb ze)(u:Ae w w'):KN w' p gs gp rv zb ze:=by obtain⟨sc,pl,a,b,c⟩:=h;exact⟨sc,pl,a.ext u,b,c⟩
theorem L9(w:Aj)(v:Nat)(h:BO w p gs gp rv zb sc pl ze)(u:Dm pl zb ze)(E:1<=v)(H:v<=zb):AC 220 #[.pointer p,v] w λe w'=>e=.returned (.bool (decide ((v:Int)∈ze)))/\w=w':=(AfQ w v h E H).mono λe w'⟨J,O⟩=>⟨by rw[J];have:=u.has (v:=(v:Int)) Ad Ad;rw[Int.toNat_natCast]at this;exact Bo (decide_eq_decide.2 this),O⟩
def ZF(p gs gp:Nat)(rv:Aw)(zb:Nat)(ze:An)(w:Aj)(e:Bz)(w':Aj):Prop:=∃row',e=.returned ()/\Adu w w' p gs gp rv zb row'/\row'.Perm ze
theorem Mw(w:Aj)(v:Nat)(af:Int)(h:KN w p gs gp rv zb ze)(aN:1<=v)(E:v<=zb)(bk:0<=af)(av:af<=1000000000000):AC 140 #[.pointer p,v,af] w (ZF p gs gp rv zb ze w):=by
 obtain⟨sc,pl,ab,ah,ay⟩:=h;have ac:=ab.J.cell 0;have J:=ab.ct E;have aj:=ab.bO v E;have aW:=ay v E;obtain⟨bn,aO,aX⟩:=ab.bW;have aP:=aO.frozen v;have br:=ab.aA;have bt:(0:Int)<=(v:Int):=Ad;have bu:(v:Int)<(zb:Int)+1:=Ad;have aQ:(1:Int)<=(v:Int):=Ad;have aR:(v:Int)<=(zb:Int):=Ad;have V:=OS ab v (x:=sc v+af) Ad;obtain⟨aY,aZ⟩:=aj;generalize sc v=z at J aY aZ aW V;have bw:decide (af<0)=false:=zn Ad;have bx:decide (1000000000000<af)=false:=zn Ad;have bz:(p<w):=ab.J.lt;clear ab aO aX;by_cases ag:(v:Int)∈ze
 . have bA:=zk ag;have a1:decide ((v:Int)∈ze)=true:=zt ag;obtain⟨j,aw⟩:=z0 ag;have aS:pl v=j:=by have:=ah.at_ j v aw;simpa using this
   have a5:=ah.hole aw;have a6:=zk aw;have a7:=zk aS;clear ag aw aS;go_enter func140,ntmps140;go_wp2_with fail
   refine(RB _ _ _ _ _ _ ac Ad aQ aR).mono ?_;rintro e ax⟨rfl,rfl⟩;go_wp2_with fail
   refine(L9 _ v V.1 ah aN E).mono ?_;rintro e ax⟨rfl,rfl⟩;have a8:=V.1.J.cell 2;have aT:=V.1.cI E;rw[a7.out]at aT;go_wp2_with fail
   refine(ZC _ j v V.1 a5 a6).mono ?_;rintro e ax⟨a9,row1,rfl,ba,bc,bd⟩;obtain⟨rv1,be,aU,aV⟩:=ba;have bf:=V.2.trans aU (λb _ hb=>hb);have bh:(∀b,El p gs gp rv1 b->El p gs gp rv b\/w<=b):=λb hb=>by rcases aV b hb with g|g;exact .inl g;rw[xf]at g;exact .inr g
   clear aU aV a8 aT ac J aP;go_wp2;go_loopw[](λwr=>∃(Z:Aw)(H aa:Nat->Int)(O:An),BO wr p gs gp Z zb H aa O/\Dm aa zb O/\O.Perm ze/\Au (El p gs gp rv) w wr/\(∀b,El p gs gp Z b->El p gs gp rv b\/w<=b)/\∀u:Nat,u<=zb->u≠v->H u<=1000000000000)(λwr=>It wr gs v);case atStart=>exact⟨rv1,_,a9,row1,be,bc,bd,bf,bh,(λu T az=>by rw[Eb _ _ az];exact ay u T)⟩
   case round=>
    obtain⟨Z,H,aa,O,U,ak,al,ad,ae,aA⟩:=hrel;have ac:=U.J.cell 0;have J:=U.ct E;have aj:=U.bO v E;obtain⟨aB,aC⟩:=aj;have am:It wr gs v=(H v).toNat:=by unfold It;rw[J]
    have an:=zk am;clear am;generalize ao:H v=y at J aB aC an;have aD:=zk ao;clear ao;by_cases bi:1000000000000<y;go_wp2_with fail
    refine(NJ _ U ak).mono ?_;rintro e bj⟨aE,rfl,⟨aF,⟨aG,aH,aq,aI,au⟩,aJ,aK⟩,aL⟩;have t1:=aq.ct E;have aM:=zk t1;clear t1 J ac;go_wp2;go_roundw;case rel=> exact⟨aF,aG,aH,aE,aq,aI,aL.trans al,ad.trans aJ (λb hb av=>(ae b av).resolve_right Ad),λb hb=>(aK b hb).elim (ae b) (λg=>.inr (z7 ad.size g)),λu T _=>au u T⟩
    case measure=> rw[an.out];unfold It;rw[aM.out];have:=au v E;dsimp only;omega
    go_wp2;go_ret;refine⟨O,rfl,⟨Z,⟨H,aa,U,ak,λu T=>?_⟩,ad,ae⟩,al⟩;by_cases e:u=v;subst e;rw[aD.out];omega;exact aA u T e
 have a1:decide ((v:Int)∈ze)=false:=zn ag;clear ag;go_enter func140,ntmps140;go_wp2_with fail
 refine(RB _ _ _ _ _ _ ac Ad aQ aR).mono ?_;rintro e ax⟨rfl,rfl⟩;go_wp2_with fail
 refine(L9 _ v V.1 ah aN E).mono ?_;rintro e ax⟨rfl,rfl⟩;go_wp2;clear ac J aP;go_loopw[](λwr=>∃(Z:Aw)(H aa:Nat->Int)(O:An),BO wr p gs gp Z zb H aa O/\Dm aa zb O/\O.Perm ze/\Au (El p gs gp rv) w wr/\(∀b,El p gs gp Z b->El p gs gp rv b\/w<=b)/\∀u:Nat,u<=zb->u≠v->H u<=1000000000000)(λwr=>It wr gs v);case atStart=>exact⟨rv,_,pl,ze,V.1,ah,abb _,V.2,λb hb=>.inl hb,(λu T az=>by rw[Eb _ _ az];exact ay u T)⟩
 case round=>
  obtain⟨Z,H,aa,O,U,ak,al,ad,ae,aA⟩:=hrel;have ac:=U.J.cell 0;have J:=U.ct E;have aj:=U.bO v E;obtain⟨aB,aC⟩:=aj;have am:It wr gs v=(H v).toNat:=by unfold It;rw[J]
  have an:=zk am;clear am;generalize ao:H v=y at J aB aC an;have aD:=zk ao;clear ao;by_cases bi:1000000000000<y;go_wp2_with fail
  refine(NJ _ U ak).mono ?_;rintro e bj⟨aE,rfl,⟨aF,⟨aG,aH,aq,aI,au⟩,aJ,aK⟩,aL⟩;have t1:=aq.ct E;have aM:=zk t1;clear t1 J ac;go_wp2;go_roundw;case rel=> exact⟨aF,aG,aH,aE,aq,aI,aL.trans al,ad.trans aJ (λb hb av=>(ae b av).resolve_right Ad),λb hb=>(aK b hb).elim (ae b) (λg=>.inr (z7 ad.size g)),λu T _=>au u T⟩
  case measure=> rw[an.out];unfold It;rw[aM.out];have:=au v E;dsimp only;omega
  go_wp2;go_ret;refine⟨O,rfl,⟨Z,⟨H,aa,U,ak,λu T=>?_⟩,ad,ae⟩,al⟩;by_cases e:u=v;subst e;rw[aD.out];omega;exact aA u T e
end
def Ug(S:JS)(u:Int)(za p E:Nat)(lv H:Aw)(zb:Nat)(w:Aj)(e:Bz)(w':Aj):Prop:=∃v J,e=.returned v/\Ay w' w v (MO S u)/\(∃O T,Bm w' za p E O T zb (GH S u).rows J/\Au (Ec p E lv H) w w'/\∀b,Ec p E O T b->Ec p E lv H b)/\BS (GH S u).rows (GH S u).depth J
def ZP(w:Aj)(za p Z:Nat)(lv aI:Aw)(S:JS)(zb:Nat)(E:An)(H:Int)(aX:S.vars=zb)(h:Bm w za p Z lv aI zb S.rows E)(ah:DW S)(hb:BS S.rows S.depth E)(aJ:-9223372036854775808<=H)(bE:H<=Bh):AC 240 #[.pointer p,H] w (Ug S H za p Z lv aI zb w):=by
 obtain⟨Dd,zc,O⟩:=S;obtain rfl:Dd=zb:=aX;have aY:=h.J.cell 1;have aZ:=h.J.cell 2;have ay:=h.J.cell 3;have az:0<=Ez H:=by unfold Ez;split<;>omega
 obtain⟨u,aa⟩:=y1 az;have bF:(if H<0 then(0:Int)else H)=(u:Int):=aa;have am:(E.length:Int)=O:=hb.1;by_cases aj:u<E.length
 . have a1:E≠[]:=λe=>by rw[e]at aj;simp at aj
   obtain⟨T,U,rfl,bG⟩:=h.be.full a1;have bH:(u:Int)<(E.length:Int):=Ad;have bI:(u:Int)<=(U:Int):=Ad;have bJ:(0:Int)<=(u:Int):=Ad;have bK:=h.cQ;have an:E[u]? =some (((Bp zc u).length:Nat):Int):=by have e:E[u]? =some E[u]:=zr aj;rw[e,hb.2 u _ e]
   obtain⟨u1,u2,u3⟩:=Ul ah.sorted u;have ao:Hid (MO ⟨zb,zc,O⟩ H=(Az (zc.drop (Bp zc u).length)).reverse):=by unfold Hid MO;dsimp only;rw[aa,u2]
   have V:Hid ((GH ⟨zb,zc,O⟩ H).rows=zc.take (Bp zc u).length/\(GH ⟨zb,zc,O⟩ H).depth=u):=by unfold Hid GH;dsimp only;rw[aa,u1,zq Ad];exact⟨rfl,rfl⟩
   have aK:Hid (BS (zc.take (Bp zc u).length) u (E.take u)):=by unfold Hid;rw[u1];exact Vu (S:=⟨zb,zc,O⟩) hb (by show(u:Int)<O;omega)
   generalize(Bp zc u).length=ab at an ao V aK u3;have bL:=h.bh;have a5:=ah.nodup;have aA:=h;have a6:=zk am;have bM:=hb;have bN:p<w:=h.J.lt;have bO:za<=w:=by have:=h.bp;omega
   clear aa az u1 u2 am hb ah;go_enter func240,ntmps240;go_wp2_with(go_at_call 255;refine(G7 _ _ ay).mono ?_;rintro e w'⟨rfl,rfl⟩)
   refine(Adk p _).mono ?_;rintro e ac⟨rfl,aq⟩;have aL:Ae w ac:=by rw[aq];grind
   have a7:Aq ac w 163 #[.pointer p]:=by rw[aq];exact Aq.new w _ _
   have aB:ac.heap.size=w.heap.size+1:=by rw[aq];simp
   have au:=zk aB;clear aq aB aY aZ ay;go_wp2;go_loopw[6](λv wr=>∃(m:Nat)(aC:Aw),ab<=m/\m<=zc.length/\Bm wr za p Z aC (.slice T E.length U) zb (zc.take m) E/\aC.ownBlock=lv.ownBlock/\Ay wr ac v ((Az (zc.drop m)).reverse)/\Au (Ec p Z lv (.slice T E.length U)) w wr/\Aq wr w 163 #[.pointer p]/\ac.heap.size<=wr.heap.size)(λv _=>zc.length-Ve v);case atStart=> refine⟨zc.length,lv,u3,zs _,?_,rfl,?_,aL.stay,a7,zs _⟩;rw[x0];exact aA.ext aL;rw[abr];exact Ay.nil _ _
   case round=>
    obtain⟨m,aC,bP,bQ,ad,aM,af,aN,aO,a8⟩:=hrel;have av:=zk aM;obtain⟨aP,ae,cl,rfl,a9,bR,aQ⟩:=ad.cV;have ba:ae=m:=by rw[aQ,ya];omega
    subst ba;have d1:=ad.J.cell 1;have d2:=ad.J.cell 2;have bS:wr.cell? ⟨T,u,none⟩=some ab:=by have bc:wr.ownsRow za 3 1 (.slice T E.length U) E.length (E.map (Value.int .i64)):=ad.be;have:=bc.cells (g:=T) rfl u ab (by rw[yd,an];rfl);rwa[S7]at this
    have bT:=zk an;clear aM a9 aQ an;by_cases bU:ab<ae;obtain⟨J,rfl⟩:∃J,ae=J+1:=⟨ae-1,Ad⟩;obtain⟨r,ag⟩:∃r,zc[J]? =some r:=⟨_,zr Ad⟩;have aR:zc.take (J+1)=zc.take J++[r]:=AM ag;have bd:=zk (Aan ag);have be:=VH a5 ag;have aw:=ad;rw[aR]at aw;have bf:=AU (aw.ok r AG);have bh:-9223372036854775808<=r.lit/\r.lit<=Bh:=Ad;have bi:=aw;have bV:(ab:Int)<((J+1:Nat):Int):=Ad;clear ag aR aw bf;go_wp2;go_quiet(fail);go_wp2_with fail
    refine(AgP _ za p Z w _ _ zb (zc.take J) r E (bi.ext ((Ae.refl _).drewN _)) be (aO.drewN _)).mono ?_;rintro e aD⟨rfl,bj,bk,aS,ak⟩;have bW:ac.heap.size<=aD.heap.size:=z7 a8 ak.size;have aE:∀k,w.heap.size<=k->¬Ec p Z (.slice aP (J+1) cl) (.slice (some ⟨T,0,none⟩) E.length U) k:=λk aj al=>by have:=(aA.lt ((Ec.same av k).1 al)).2;omega
    have bn:=(af.ext ((Ae.refl _).drewN _)).stay ak (λk e=>aE k (by have:=(af.J k e).1;have:=au.out;omega));have br:=MS zc (J+1);have bt:(Az (zc.drop (J+1))).reverse.length+1<=10000000000000:=Ad;have aT:=zk (aS.trans av);have bu:Hid (Au (Ec p Z lv (.slice T E.length U)) w aD):=(aN.drewN _).trans ak (λj _ al=>(Ec.same av j).1 al);have bw:=ak.J (aO.drewN _) (aE _ (zs _));clear br aS ak aE;go_wp2_with(at_builtin;refine BW _ rfl (.tmp 36) (.tmp 39) rfl ac _ _ rfl (bn.alloc _) _ _ _ rfl (BD _ _ _) bh bt Ca ?_;intro v4 bX aU ax bx;clear bx)
    go_roundw;case rel=>
     have aB:=au.out;have aF:∀k,u6.ownBlock=some k->w+1<=k:=λk e=>by have:=(af.J k e).1;omega
     refine⟨J,bj,Ad,Ad,?_,aT,by rw[bd.out];exact aU,?_,?_,by have:=ax.size;simp at this;omega⟩;refine bk.same λb hb al=>?_;rw[ax.block b Ca (λe=>by have:=aF b e.symm;have:=(aA.lt ((Ec.same aT b).1 al)).2;omega)];exact add aD _ b hb;exact(bu.alloc _).grown ax (λk e=>Or.inr (by have:=aF k e;omega));exact(bw.alloc _).grown ax (λe=>by have:=aF _ e.symm;omega)
    case measure=> have aV:=af.aL;have aG:=aU.aL;have bz:=MS zc (J+1);rw[zu]at aG;simp at aG bz aV;rw[aV,aG];omega
    have bY:¬((ab:Int)<(ae:Int)):=Ad;obtain rfl:ae=ab:=Ad;have f2:=ad.J.frozen 2;go_wp2;go_quiet(fail);go_wp2;go_ret;have bA:=Adb (k:=u) ad Ad;have bB:∀W:Aj,W.grownBy (W.setCell ⟨p,2,none⟩ (.slice T u U)) (some p):=λW=>⟨rfl,rfl,rfl,by rw[xf];exact zs _,λj _ bC=>yt W _ _ j (λe=>bC (by rw[e]))⟩;refine⟨_,E.take u,rfl,?_,⟨.slice aP ae cl,.slice T u U,?_,?_,?_⟩,?_⟩;rw[ao.out];have aJ:Ay wr w u6 _:=af.bK (by have:=au.out;omega);exact(aJ.drewN _).kept (bB _) (Or.inr (λe=>by have:=(af.J p e).1;have:=au.out;omega));rw[V.1];exact bA.same (λb _ _=>rfl);exact(aN.drewN _).setCell (Or.inl (Or.inl rfl)) _;intro b hb;rcases hb with hb|hb|hb|hb;exact Or.inl hb;exact Or.inr (Or.inl hb);exact Or.inr (Or.inr (Or.inl (by rw[<-av.out];exact hb)));exact Or.inr (Or.inr (Or.inr hb));rw[V.1,V.2];exact aK
 obtain⟨bZ,b0,U,rfl,b1,b2,bD⟩:=h.di;subst bD;have aH:Bp zc (u:Int)=zc:=T7 (λr ag=>by have:r.level<=O:=(ah.de r ag).2;omega);have aW:Fy zc (u:Int)=[]:=by have e:=(Ul ah.sorted u).2.1;rw[<-e,aH];exact abr
 have ao:Hid (MO ⟨zb,zc,O⟩ H=[]):=by unfold Hid MO;dsimp only;rw[aa,aW];rfl
 have V:Hid ((GH ⟨zb,zc,O⟩ H).rows=zc/\(GH ⟨zb,zc,O⟩ H).depth=O):=by unfold Hid GH;dsimp only;rw[aa,aH,zo Ad];exact⟨rfl,rfl⟩
 have b3:¬((u:Int)<(E.length:Int)):=Ad;have a6:=zk am;clear aH aW aa az am aj;go_enter func240,ntmps240;go_wp2_with(go_at_call 255;refine(G7 _ _ ay).mono ?_;rintro e w'⟨rfl,rfl⟩)
 go_ret;refine⟨_,E,rfl,by rw[ao.out];exact Ay.nil _ _,?_,?_⟩;rw[V.1];exact⟨lv,_,h,Au.refl _ _,λb hb=>hb⟩;rw[V.1,V.2];exact hb
