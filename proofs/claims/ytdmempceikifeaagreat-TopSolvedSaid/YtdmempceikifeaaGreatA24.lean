import Derived.Test.YtdmempceikifeaaGreatShelf
import Derived.Test.YtdmempceikifeaaGreatA04
import Derived.LoopN
import Derived.Scope
import Derived.WalkMore
set_option maxRecDepth 100000
set_option maxHeartbeats 16000000
set_option linter.all false
namespace Go.Proofs.YtdmempceikifeaaGreat
open Go.RowKit Tryz
def AaM(s w)(h:([10]==s.toList)=false):AC 277 #[.string s,.string ⟨#[10]⟩] w λe w'=>e=.returned (Lib.indexByte s.data.toList 10)/\w'=w:=by
 go_enter func277,ntmps277;go_wp2_with(go_at_call 279;(refine(Any.stringslite_IndexByte (P:=prog) (ρ:=lays137_ren) {lays137 with} _ _ _).mono ?_);rintro e w'⟨rfl,rfl⟩)
 go_ret;exact⟨rfl,rfl⟩
def Oi(s a b)(i:Nat)(w)(h:([10]==s.data.toList)=false)(hi:Lib.indexByte s.data.toList 10=i)(H:i+1<=s.size)(J:s.size<=1000)(u:s.extract 0 i=a)(hb:s.extract (i+1) s.size=b):AC 114 #[.string s,.string ⟨#[10]⟩] w λe w'=>e=.returned (.tuple #[.string a,.string b,true])/\Ae w w':=by
 have key:AC 187 #[.string s,.string ⟨#[10]⟩] w λe w'=>e=.returned (.tuple #[.string a,.string b,true])/\Ae w w':=by
  have hmx:prog.follows .mixedOrders=true:=AJ;go_enter func187,ntmps187;go_wp2_with fail
  refine(AaM s _ (zk (show([10]==s.toList)=false by rw[Lib.toList_data];exact h))).mono ?_;rintro e w'⟨rfl,rfl⟩;rw[(zk hi).out];go_wp2;go_region_o
  go_wp2;go_ret3;refine⟨?_,by grind⟩;rw[<-(zk u).out,<-(zk hb).out];rfl
 go_enter func114,ntmps114;go_wp2_with fail
 refine key.mono ?_;rintro e w'⟨rfl,E⟩;go_wp2;go_ret3;exact⟨rfl,E⟩
def Abi(d:Nat)(u:d=0\/d=1\/d=6\/d=7)(w:Aj):AC 276 #[.string ⟨#[UInt8.ofNat (48+d)]⟩] w λe w'=>e=.returned (.tuple #[.string ⟨#[UInt8.ofNat (48+d)]⟩,false,true])/\Ae w w':=by
 have E:∀d:Nat,(d=0\/d=1\/d=6\/d=7)->AC 330 #[.string ⟨#[UInt8.ofNat (48+d)]⟩,.string ⟨#[45]⟩] w λe w'=>e=.returned (.tuple #[.string ⟨#[UInt8.ofNat (48+d)]⟩,false])/\w'=w:=by rintro d(rfl|rfl|rfl|rfl)<;>exact strings_CutPrefix _ _ _
 have H:=E d u;clear E;rcases u with rfl|rfl|rfl|rfl;all_goals
  go_enter func276,ntmps276;go_wp2_with fail
  refine H.mono ?_;rintro e w'⟨rfl,rfl⟩;go_wp2;refine xc 2 ?_;rw[yu];go_wp2;rw[yu];go_wp2;go_ret3;exact⟨rfl,Ae.refl _⟩
def Age(d:Nat)(J:d=0\/d=1\/d=6\/d=7)(lo hi:Int)(E:lo<=d)(H:d<=hi)(w):AC 186 #[.string ⟨#[UInt8.ofNat (48+d)]⟩,lo,hi] w λe w'=>e=.returned (.tuple #[d,()])/\Ae w w':=by
 have O:=Abi d J w;have U:∀(u)h,((⟨#[u]⟩:ByteArray)[0]'h)=u:=λ_ _=>rfl;rcases J with rfl|rfl|rfl|rfl;all_goals
  simp at E H;have V:=zn (show¬_<lo from Int.not_lt.2 E);have Z:=zn (show¬hi<_ from Int.not_lt.2 H);clear E H;go_enter func186,ntmps186;go_wp2_with fail
  refine O.mono ?_;rintro e w'⟨rfl,T⟩;go_wp2;refine xc 2 ?_;rw[yu];go_wp2;rw[yu];go_wp2;go_ret2;exact⟨rfl,T⟩
def Fv(P:Program)(c:Code)(Q:Exit->Act->Aj->Prop):Nat->Exit->Act->Aj->Prop
 |n+1,.goto l,a,w=>∃r,findLabel c l=some r/\r.wp P (Fv P c Q n) a w
 |0,.goto _,_,_=>False
 |_,e,a,w=>Q e a w
def Xt{P c r Q n l a w}(h:findLabel c l=some r)(k:r.wp P (Fv P c Q n) a w):Fv P c Q (n+1) (.goto l) a w:=⟨r,h,k⟩
def Ab0{P c Q n a w}:Fv P c Q n .ret a w=Q .ret a w:=by cases n<;>rfl
def Q3{P c Q a w}(n)(h:∀c',c'=c->c.wp P (Fv P c' Q n) a w):(Code.scope c).wp P Q a w:=by
 have h:=h c rfl;intro b k U;have key:∀n r a w,r.wp P (Fv P c Q n) a w->∃e a' w',Q e a' w'/\Arrives P (lone (b.at a (.code r::.inScope c::k)) U w) b k U e a' w':=by
  intro n;induction n with
  |zero=>
   intro r a w h;obtain⟨e,H,J,E,u⟩:=h b (.inScope c::k) U;cases e with
   |normal=>exact⟨.normal,H,J,E,Steps.trans u (.one step_inScope)⟩
   |exit id=>exact⟨.exit id,H,J,E,λO T=>u O (by simp[exitTo,T])⟩
   |goto V=>exact E.elim
   |ret=>exact⟨_,H,J,E,u⟩
   |panic Z=>exact⟨_,H,J,E,u⟩
   |outgrown=>exact⟨_,H,J,E,u⟩
  |succ n aa=>
   intro r a w h;obtain⟨e,H,J,E,u⟩:=h b (.inScope c::k) U;cases e with
   |normal=>exact⟨.normal,H,J,E,Steps.trans u (.one step_inScope)⟩
   |exit id=>exact⟨.exit id,H,J,E,λO T=>u O (by simp[exitTo,T])⟩
   |goto V=> obtain⟨ab,ac,ad⟩:=E;obtain⟨ae,af,ag,ah,aj⟩:=aa ab H J ad;exact⟨ae,af,ag,ah,.of_steps (u _ (by simp[gotoIn,ac])) aj⟩
   |ret=>exact⟨_,H,J,E,u⟩
   |panic Z=>exact⟨_,H,J,E,u⟩
   |outgrown=>exact⟨_,H,J,E,u⟩
 obtain⟨e,H,J,E,u⟩:=key n c a w h;refine⟨e,H,J,E,?_⟩;cases e with
 |normal=>exact .head step_scope u
 |exit id=>exactλO T=>.head step_scope (u O T)
 |goto V=>exactλO T=>.head step_scope (u O T)
 |ret=>exact .of_steps (.one step_scope) u
 |panic Z=>exact .of_steps (.one step_scope) u
 |outgrown=>exact .of_steps (.one step_scope) u
def WX(x w)(h:0<=x/\x<256):AC 189 #[.string ⟨#[32,9,13]⟩,.int .u8 x] w λe w'=>e=.returned (.int .i64 (if x=32 then 0 else if x=9 then 1 else if x=13 then 2 else-1))/\w=w':=by
 have key:∀n,n<256->Lib.indexByte [32,9,13] n.toUInt8=if n=32 then 0 else if n=9 then 1 else if n=13 then 2 else-1:=by decide+kernel
 obtain⟨n,rfl⟩:∃n:Nat,x=n:=⟨x.toNat,Ad⟩;refine(strings_IndexByte _ _ _).mono ?_;rintro e w'⟨rfl,rfl⟩;refine⟨?_,rfl⟩;rw[Int.toNat_natCast,key n Ad];refine Bn ?_;split<;>split<;>(try split)<;>(try split)<;>(try split)<;>first|rfl|omega
structure Hv where
 e3:Int
 at_:Int
 eH:List UInt8
def MH(t:Hv):List Aw:=[t.e3,t.at_,.string ⟨t.eH.toArray⟩]
def AbW(t):∀v∈MH t,v.oneCell'=true:=by intro v u;unfold MH at u;simp at u;rcases u with rfl|rfl|rfl<;>rfl
def AiY:LF 117 122 (.agg #[(),(),.string ⟨#[]⟩]) 3 32:=⟨underlying117,AJ,rfl,Ax,Ax⟩
def Mm(w:Aj)(b:Nat)(v:Aw)(ts:List Hv):Prop:=AP w b 122 3 v ts.length (ts.flatMap MH)
def WQ(w){zf rest o a Q}(aa:o.guard=none)(s x) (ab:o.op=.call {callee:=.builtin .append,args:=#[s,x],argTypes:=#[117,117]}) (za v M ln at_ O)(ac:a.eval s=v)(U:Mm w za v M)(g c)(ad:a.eval x=.slice (some ⟨g,0,none⟩) 1 c)(ae:Aq w g 122 #[.int .i64 ln,.int .i64 at_,.string ⟨O.toArray⟩])(hb:M.length<=1000000000)(T)(V:Ae T w)(aj:za=T.heap.size) (h:∀E H J w',Mm w' za (.slice E H J) (M++[⟨ln,at_,O⟩])->Ae T w'->wpList prog zf Q rest (a.put o.dst (.slice E H J)) w'):wpList prog zf Q (o::rest) a w:=by
 refine D6 AiY w aa s x ab za v M.length (M.flatMap MH) ac U _ 1 c (MH ⟨ln,at_,O⟩) ad (BA.one (λj u af=>?_) rfl) (AbW _) (by omega) (by have:=V.size;omega) λak w' Z ag _=>?_;have e:(g:Addr).add j=⟨g,j,none⟩:=by unfold Addr.add;split<;>simp_all
 rw[e,ae.cell j];simpa[MH]using af;obtain⟨E,H,J,rfl⟩:=AP.form Z;refine h E H J w' ?_ (V.grown ag (λk e=>by have:=(xy U k e).1;omega));unfold Mm;rw[zu,y4];simpa using Z
def Rl:List Hv:=[⟨1,0,[111,98,106,101,99,116]⟩,⟨1,7,[49]⟩,⟨1,9,[49]⟩,⟨1,11,[48]⟩,⟨1,13,[49]⟩]
def Pf:List Hv:=[⟨2,15,[114,111,119]⟩,⟨2,19,[48]⟩,⟨2,21,[48]⟩,⟨2,23,[48]⟩,⟨2,25,[55]⟩]
def LA:List Hv:=[⟨3,27,[99,97,108,108]⟩,⟨3,32,[49]⟩,⟨3,34,[48]⟩]
def Lv:List Hv:=[⟨4,36,[114,101,116]⟩,⟨4,40,[49]⟩,⟨4,42,[54]⟩]
def UC:List (List UInt8×Int×Int×List Hv):=[([111,98,106,101,99,116,32,49,32,49,32,48,32,49],1,0,Rl),([114,111,119,32,48,32,48,32,48,32,55],2,15,Pf),([99,97,108,108,32,49,32,48],3,27,LA),([114,101,116,32,49,32,54],4,36,Lv)]
def Ai9(ts:List Hv)(w:Aj)(e:Bz)(w':Aj):Prop:=∃A n c,e=.returned (.slice A n c)/\Mm w' w (.slice A n c) ts/\Ae w w'
def J6(x:List UInt8×Int×Int×List Hv)(H:x∈UC)(w:Aj):AC 115 #[.string ⟨x.1.toArray⟩,x.2.1,x.2.2.1] w (Ai9 x.2.2.2 w):=by
 have J:∀x∈UC,Lib.hasPrefix x.1 [99,32]=false:=Ax;have O:∀w,AC 188 #[.string ⟨x.1.toArray⟩,.string ⟨#[99,32]⟩] w λe w'=>e=.returned false/\w=w':=λw=>(strings_HasPrefix _ _ _).mono λ_ _ h=>⟨by rw[h.1];exact Bo (J x H),h.2.symm⟩;have ac:∀(L:List UInt8)(i:Nat)h,((⟨L.toArray⟩:ByteArray)[i]'h)=L.getD i 0:=λL i h=>by show L.toArray[i]=_;rw[List.getElem_toArray,yc,zr,Option.getD_some]
 have u:(Mm w w AI []):=AP.nil _ _ _ _;have E:=Ae.refl w;clear J;simp only[UC,xl,adf,or_false]at H;rcases H with rfl|rfl|rfl|rfl;all_goals
  have U:=O w;clear O;dsimp only;go_enter func115,ntmps115;go_wp2;refine Q3 30 λc T=>?_;have V:=zk T;clear T;go_wp2_with fail
  refine U.mono ?_;rintro e w'⟨rfl,rfl⟩;go_wp2;repeat(first|(go_step3;go_wp2_with(first|(go_at_call 189;(refine(WX _ _ AG).mono ?_);rintro e w'⟨rfl,rfl⟩)|(at_builtin;refine WQ _ rfl (.tmp 42) (.tmp 52) rfl w _ _ _ _ _ rfl (AP.alloc u _) _ _ rfl (Aq.new _ _ _) AG w (E.alloc _) rfl ?_;intro Z aa ab w2 u E;skip)))|(refine Xt (by rw[V.out];rfl) ?_;go_wp2_with(first|(go_at_call 189;(refine(WX _ _ AG).mono ?_);rintro e w'⟨rfl,rfl⟩)|(at_builtin;refine WQ _ rfl (.tmp 42) (.tmp 52) rfl w _ _ _ _ _ rfl (AP.alloc u _) _ _ rfl (Aq.new _ _ _) AG w (E.alloc _) rfl ?_;intro Z aa ab w2 u E;skip))))
  rw[Ab0];go_ret;exact⟨_,_,_,rfl,u,E⟩
def VW{w:Aj}{E H J O T U:Nat}{t1 t2:TypeId}{u v:Aw}{V vs:List Aw}(Z:w.ownsRow E t1 J u T V)(aa:w.ownsRow H t2 O v U vs)(ab:t1≠t2):u.ownBlock=none\/u.ownBlock≠v.ownBlock:=by
 rcases aa.2 with⟨rfl,_⟩|⟨ac,zh,ae,rfl,_,ad,_⟩;cases e:u.ownBlock with
 |none=>exact Or.inl rfl
 |some k=>exact Or.inr (by simp[Value.ownBlock])
 exact Or.inr (D3 Z (g:=ac) (t:=t2) ad ab)
def Aix:LF 111 117 AI 1 24:=⟨underlying111,AJ,rfl,Ax,Ax⟩
def Jn(w:Aj)(b:Nat)(v:Aw)(E:List (List Hv)):Prop:=∃vs,AP w b 117 1 v vs.length vs/\vs.length=E.length/\∀(j:Nat)(P:List Hv),E[j]? =some P->∃u,vs[j]? =some u/\Mm w b u P
def Jn.nil(w:Aj)(b:Nat):Jn w b AI []:=⟨[],AP.nil _ _ _ _,rfl,λ_ _ h=>by simp at h⟩
def Jn.ext{w w':Aj}{b:Nat}{v:Aw}{E:List (List Hv)}(h:Jn w b v E)(H:Ae w w'):Jn w' b v E:=let⟨vs,J,O,T⟩:=h;⟨vs,J.ext H,O,λj P U=>let⟨u,e,V⟩:=T j P U;⟨u,e,AP.ext V H⟩⟩
def MD(w:Aj){zf:Array Oper}{rest:List Oper}{o:Oper}{a:Act}{Q:Exit->Act->Aj->Prop}(ad:o.guard=none)(s x:Operand) (ae:o.op=.call {callee:=.builtin .append,args:=#[s,x],argTypes:=#[111,111]}) (E:Aj)(v:Aw)(J:List (List Hv))(P:List Hv)(af:a.eval s=v)(ag:Jn w E v J)(A:AD)(c:Nat)(B:AD)(n d:Nat)(ah:a.eval x=.slice A 1 c)(aj:BA w A 1 1 [.slice B n d])(ak:Mm w E (.slice B n d) P)(k:Nat)(hb:J.length=k)(au:k<=1000)(V:Ae E w) (h:∀O T w',Jn w' E (.slice O (k+1) T) (J++[P])->Ae E w'->wpList prog zf Q rest (a.put o.dst (.slice O (k+1) T)) w'):wpList prog zf Q (o::rest) a w:=by
 obtain⟨vs,U,Z,al⟩:=ag;refine D6 Aix w ad s x ae E v vs.length vs af U A 1 c [.slice B n d] ah aj (λu am=>by rw[zy.1 am];rfl) Ad V.size λav w' aa ab aw=>?_;obtain⟨O,T,rfl,_⟩:=AP.aC aa Ad;obtain rfl:vs.length=k:=Ad;have keep:∀u P,Mm w E u P->Mm w' E u P:=λu P ac=>aan ac ab (VW ac U Ax);refine h O T w' ⟨vs++[.slice B n d],by rw[zu];exact aa,by simp[Z],λj Q H=>?_⟩ (V.grown ab λk e=>(xy U k e).1);by_cases an:j<J.length;rw[yh an]at H;obtain⟨u,e,hi⟩:=al j Q H;exact⟨u,by rw[yh Ad];exact e,keep _ _ hi⟩;rw[yi Ad]at H;have ao:j=J.length:=by have:=(zl.1 H).1;simp at this;omega
 subst ao;simp at H;subst H;exact⟨.slice B n d,by rw[yi Ad];simp[Z],keep _ _ ak⟩
def JR(w:Aj)(A:AD)(n:Nat)(ts:List Hv):Prop:=BA w A n 3 (ts.flatMap MH)/\ts.length=n
def JQ(w:Aj)(A:AD)(n:Nat)(u:List (List Hv)):Prop:=u.length=n/\∀(k:Nat),k<n->∃E B m d P,A=some E/\u[k]? =some P/\w.cell? (E.add k)=some (.slice B m d)/\JR w B m P
def JR.ext{w w':Aj}{A:AD}{n:Nat}{ts:List Hv}(h:JR w A n ts)(u:Ae w w'):JR w' A n ts:=⟨h.1.ext u,h.2⟩
def JQ.ext{w w':Aj}{A:AD}{n:Nat}{u:List (List Hv)}(h:JQ w A n u)(E:Ae w w'):JQ w' A n u:=⟨h.1,λk H=>let⟨J,B,m,d,P,O,T,U,V⟩:=h.2 k H;⟨J,B,m,d,P,O,T,E.cell U,V.ext E⟩⟩
def Jn.rd{w:Aj}{b:Nat}{A:AD}{n c:Nat}{E:List (List Hv)}(h:Jn w b (.slice A n c) E)(af:E.length<=1000)(O:∀P∈E,P.length<=1000):n<=c/\JQ w A n E:=by obtain⟨vs,T,U,V⟩:=h;obtain⟨A',c',e,Z,H⟩:=AP.aC T Ad;cases e;refine⟨H,U.symm,λk ag=>?_⟩;have J:E[k]? =some E[k]:=zr Ad;obtain⟨u,aa,ab⟩:=V k _ J;have ah:=O _ (zm J);obtain⟨B,d,rfl,ac,_⟩:=AP.aC ab Ad;obtain⟨ad,ae,H⟩:=Z.2.2 Ad;exact⟨ad,B,_,d,_,ae,J,H k _ aa,ac,rfl⟩
def Ab3:List (List Hv):=[Rl,Pf,LA,Lv]
def Aij(u:List (List Hv))(w:Aj)(e:Bz)(w':Aj):Prop:=∃A n c,e=.returned (.slice A n c)/\(n<=c/\JQ w' A n u)/\Ae w w'
def AbH(w:Aj):AC 46 #[.string ⟨#[111,98,106,101,99,116,32,49,32,49,32,48,32,49,10,114,111,119,32,48,32,48,32,48,32,55,10,99,97,108,108,32,49,32,48,10,114,101,116,32,49,32,54,10]⟩] w (Aij Ab3 w):=by
 have J:=Jn.nil w w;have u:=Ae.refl w;go_enter func46,ntmps46;go_wp2;refine xc 5 ?_;rw[yu];go_wp2_with fail
 refine(Oi _ ⟨#[111,98,106,101,99,116,32,49,32,49,32,48,32,49]⟩ _ 14 _ (by decide+kernel) (by decide+kernel) (by decide+kernel) (by decide+kernel) (by decide+kernel) rfl).mono ?_;rintro e V⟨rfl,E⟩;skip;go_wp2_with fail
 refine(J6 ([111,98,106,101,99,116,32,49,32,49,32,48,32,49],1,0,Rl) (by simp[UC]) _).mono ?_;rintro e w2⟨Z,aa,ab,rfl,O,H⟩;have T:=AP.less O (u.trans E).size;have U:=J.ext (E.trans H);have u:=(u.trans E).trans H;clear O H E J;go_wp2_with(at_builtin;refine MD _ rfl (.tmp 20) (.tmp 27) rfl w _ _ _ rfl (U.ext ((Ae.refl _).alloc _)) _ _ _ _ _ rfl (BA.bz _ _ _) (AP.alloc T _) 0 AG Ax (u.alloc _) ?_;intro ac ad ae J u;skip)
 rw[yu];go_wp2_with fail
 refine(Oi _ ⟨#[114,111,119,32,48,32,48,32,48,32,55]⟩ _ 11 _ (by decide+kernel) (by decide+kernel) (by decide+kernel) (by decide+kernel) (by decide+kernel) rfl).mono ?_;rintro e V⟨rfl,E⟩;skip;go_wp2_with fail
 refine(J6 ([114,111,119,32,48,32,48,32,48,32,55],2,15,Pf) (by simp[UC]) _).mono ?_;rintro e w2⟨Z,aa,ab,rfl,O,H⟩;have T:=AP.less O (u.trans E).size;have U:=J.ext (E.trans H);have u:=(u.trans E).trans H;clear O H E J;go_wp2_with(at_builtin;refine MD _ rfl (.tmp 20) (.tmp 27) rfl w _ _ _ rfl (U.ext ((Ae.refl _).alloc _)) _ _ _ _ _ rfl (BA.bz _ _ _) (AP.alloc T _) 1 AG Ax (u.alloc _) ?_;intro ac ad ae J u;skip)
 rw[yu];go_wp2_with fail
 refine(Oi _ ⟨#[99,97,108,108,32,49,32,48]⟩ _ 8 _ (by decide+kernel) (by decide+kernel) (by decide+kernel) (by decide+kernel) (by decide+kernel) rfl).mono ?_;rintro e V⟨rfl,E⟩;skip;go_wp2_with fail
 refine(J6 ([99,97,108,108,32,49,32,48],3,27,LA) (by simp[UC]) _).mono ?_;rintro e w2⟨Z,aa,ab,rfl,O,H⟩;have T:=AP.less O (u.trans E).size;have U:=J.ext (E.trans H);have u:=(u.trans E).trans H;clear O H E J;go_wp2_with(at_builtin;refine MD _ rfl (.tmp 20) (.tmp 27) rfl w _ _ _ rfl (U.ext ((Ae.refl _).alloc _)) _ _ _ _ _ rfl (BA.bz _ _ _) (AP.alloc T _) 2 AG Ax (u.alloc _) ?_;intro ac ad ae J u;skip)
 rw[yu];go_wp2_with fail
 refine(Oi _ ⟨#[114,101,116,32,49,32,54]⟩ _ 7 _ (by decide+kernel) (by decide+kernel) (by decide+kernel) (by decide+kernel) (by decide+kernel) rfl).mono ?_;rintro e V⟨rfl,E⟩;skip;go_wp2_with fail
 refine(J6 ([114,101,116,32,49,32,54],4,36,Lv) (by simp[UC]) _).mono ?_;rintro e w2⟨Z,aa,ab,rfl,O,H⟩;have T:=AP.less O (u.trans E).size;have U:=J.ext (E.trans H);have u:=(u.trans E).trans H;clear O H E J;go_wp2_with(at_builtin;refine MD _ rfl (.tmp 20) (.tmp 27) rfl w _ _ _ rfl (U.ext ((Ae.refl _).alloc _)) _ _ _ _ _ rfl (BA.bz _ _ _) (AP.alloc T _) 3 AG Ax (u.alloc _) ?_;intro ac ad ae J u;skip)
 rw[yu];go_wp2;go_ret;exact⟨_,_,_,rfl,J.rd Ax Ax,u⟩
