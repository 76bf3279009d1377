import Derived.Test.YtdmempceikifeaaGreatA18
import Derived.Test.YtdmempceikifeaaGreatA19
set_option maxRecDepth 100000
set_option maxHeartbeats 16000000
set_option linter.all false
namespace Go.Proofs.YtdmempceikifeaaGreat
open Go.RowKit Tryz
def Jw(col:Nat->Nat)(P:World->Prop)(w:World):Prop:=∀w',Au (λb=>col b≠0) w w'->P w'
def Jw.here{col:Nat->Nat}{P:World->Prop}{w:World}(h:Jw col P w):P w:=h w (Au.refl _ _)
def Jw.next{col col':Nat->Nat}{P:World->Prop}{w w':World}(h:Jw col P w)(u:Au (λb=>col b≠0) w w')(H:∀b,b<w.heap.size->col' b=col b):Jw col' P w':=λJ k=>h J (u.trans k (λj O T=>by rw[<-H j O];exact T))
def Jw.imp{col:Nat->Nat}{P Q:World->Prop}{w:World}(h:Jw col P w)(hi:∀w',P w'->Q w'):Jw col Q w:=λw' u=>hi _ (h w' u)
def Jw.own{col:Nat->Nat}{w:World}{za n c:Nat}{A:Option Addr}{xs:List Int}(h:Ay w za (.slice A n c) xs)(u:xs.length<=9223372036854775807)(H:∀x∈xs,-9223372036854775808<=x/\x<=9223372036854775807)(J:∀b,za<=b->b<w.heap.size->col b=0):Jw col (λW=>AB W A n xs) w:=λ_ O=>(h.stay O (λk e g=>g (J k (h.J k e).1 (h.J k e).2))).bZ u H
structure Cr where
 e:Nat
 al:Nat
 au:Nat
 aw:Value
 bv:Value
 ap:Nat
 ao:Nat
 a8:Value
 aX:Nat
 Y:C7
 hp:Nat
 gs:Nat
 cd:Nat
 bJ:Value
 aI:Nat
 aV:Value
 aB:Nat
 dc:Option Addr
 fn:Nat
 c9:Nat
structure Dy where
 keep:Int
 bQ:Int
 aa:Int
 a7:Nat
def GG(w:World)(H zb:Nat):Prop:=∃u,Aq w H 4 u/\u.size=zb+1/\∀v:Nat,v<=zb->∃b,u[v]? =some (.bool b)
def Jo(w:World)(H zh:Nat):Prop:=∃u f,BB w H u f/\(∀x,f x=none\/∃z,f x=some (.int .i64 z)/\0<=z/\z<=2000001)/\u.length<=zh
def encS(z:Cz)(A:Option Addr)(n c:Nat)(A':Option Addr)(n' c':Nat):List Value:=[.int .i64 z.kind,.int .i64 z.id,.slice A n c,.slice A' n' c']
def FP(col:Nat->Nat)(w:World):List Cz->List Value->Prop
 |[],u=>u=[]
 |z::P,u=>∃A n c A' n' c' vs,u=encS z A n c A' n' c'++vs/\n<=c/\n'<=c'/\Jw col (λW=>AB W A n z.lits/\AB W A' n' z.hints) w/\FP col w P vs
def FP.next{col col':Nat->Nat}{w w':World}(u:Au (λb=>col b≠0) w w')(H:∀b,b<w.heap.size->col' b=col b):∀{P:List Cz}{J:List Value},FP col w P J->FP col' w' P J
 |[],_,h=>h
 |_::_,_,⟨A,n,c,A',n',c',vs,O,T,U,V,aa⟩=>⟨A,n,c,A',n',c',vs,O,T,U,V.next u H,aa.next u H⟩
def FP.snoc{col:Nat->Nat}{w:World}{z:Cz}{A:Option Addr}{n c:Nat}{A':Option Addr}{n' c':Nat}(H:n<=c)(J:n'<=c')(h:Jw col (λW=>AB W A n z.lits/\AB W A' n' z.hints) w):∀{P:List Cz}{u:List Value},FP col w P u->FP col w (P++[z]) (u++encS z A n c A' n' c')
 |[],u,O=>by have T:u=[]:=O;subst T;exact⟨A,n,c,A',n',c',[],by simp,H,J,h,rfl⟩
 |y::P,u,⟨B,m,d,U,V,d',vs,aa,ab,ac,ad,ae⟩=>by subst aa;exact⟨B,m,d,U,V,d',vs++encS z A n c A' n' c',by rw[yy],ab,ac,ad,ae.snoc H J h⟩
def QC(col:Nat->Nat)(w:World)(za:Nat)(Cx:Value)(P:List Cz):Prop:=∃u,AP w za 105 4 Cx P.length u/\FP col w P u
def QC.stay{col col':Nat->Nat}{w w':World}{za:Nat}{Cx:Value}{P:List Cz}(h:QC col w za Cx P)(u:Au (λb=>col b≠0) w w')(H:∀k,Cx.ownBlock=some k->w'.heap[k]? =w.heap[k]?)(J:∀b,b<w.heap.size->col' b=col b):QC col' w' za Cx P:=by obtain⟨O,T,U⟩:=h;refine⟨O,?_,U.next u J⟩;have V:Au (λb=>w'.heap[b]?≠w.heap[b]?) w w':=⟨u.os,u.tape,u.output,u.size,λb _ hb=>by simpa using hb⟩;exact T.stay V (λk e g=>g (H k e))
def Bc(Z:Cr)(zb:Nat)(X:CW)(N:Dy)(id:Int):Array Value:=#[.pointer (some ⟨Z.al,0,none⟩),.int .i64 (zb:Int),.slice Z.dc Z.fn Z.c9,.pointer (some ⟨Z.ap,0,none⟩),.pointer (some ⟨Z.Y.q,0,none⟩),.pointer (some ⟨Z.hp,0,none⟩),.slice (some ⟨Z.aI,0,none⟩) (zb+1) (zb+1),.int .i64 N.keep,.int .i64 N.bQ,.int .i64 N.aa,.int .i64 id,.int .i64 X.conflict,.bool X.calm,.int .i64 X.conflicts,.bool X.aJ,Z.aV,.map (some Z.aB)]
structure Nx(I:Nat->Prop)(w:World)(za:Nat)(Z:Cr)(zb:Nat)(L:List (List Int))(E:Cv)(X:CW)(N:Dy)(bs:List Int)(col:Nat->Nat):Prop where
 ah:¬I 1->Bm w za Z.al Z.au Z.aw Z.bv zb E.R bs
 ab:¬I 1->Bl w za Z.ap Z.al Z.Y E.W E.seen
 aM:¬I 3->BL w za Z.ap Z.ao Z.a8 Z.aX E.A
 hp:¬I 4->KN w Z.hp Z.gs Z.cd Z.bJ zb E.row
 aI:¬I 5->GG w Z.aI zb
 aD:¬I 6->QC col w za Z.aV E.P
 aB:¬I 7->Jo w Z.aB N.a7
 ae:¬I 8->Aq w Z.e 176 (Bc Z zb X N E.id)
 cj:Jw col (λW=>Bf W Z.dc Z.fn L) w
 c1:∀b,Ec Z.al Z.au Z.aw Z.bv b->col b=1
 c2:∀b,EW Z.Y E.W b->col b=1
 aZ:∀b,LQ Z.ap Z.ao Z.a8 b->col b=3
 bB:∀b,El Z.hp Z.gs Z.cd Z.bJ b->col b=4
 bt:col Z.aI=5
 bI:∀b,Z.aV.ownBlock=some b->col b=6
 bC:col Z.aB=7
 aK:col Z.e=8
 cc:BS E.R E.d bs
 cu:(0<=N.bQ/\N.bQ<=100)/\0<=N.aa/\N.aa<=4000000000
 cn:-9223372036854775808<=N.keep/\N.keep<=9223372036854775807
 bb:Z.aX+(Bv E.A.rows).length<=2*E.A.rows.length/\E.A.rows.length<=200000
 bU:Z.fn<=Z.c9/\L.length<=100000
 aA:zb<=900
 ge:za<=w.heap.size
 b2:∀b,col b≠0->za<=b
 bo:∀b,EW Z.Y E.W b->¬Ec Z.al Z.au Z.aw Z.bv b
section
variable{I:Nat->Prop}{w w':World}{za:Nat}{Z:Cr}{zb:Nat}{L:List (List Int)}{E:Cv}{X:CW}{N:Dy}{bs:List Int}{col col':Nat->Nat}
theorem KN.lt{p J O:Nat}{T:Value}{ze:List Int}(h:KN w p J O T zb ze){b:Nat}(hb:El p J O T b):b<w.heap.size:=by
 obtain⟨V,aa,u,_⟩:=h;rcases hb with rfl|rfl|rfl|e
 . exact u.J.lt
 . obtain⟨U,H,_⟩:=u.bW;exact H.lt
 . obtain⟨U,H,_⟩:=u.bL;exact H.lt
 . exact(u.own.J b e).2
theorem KN.stay{F:Nat->Prop}{p J O:Nat}{T:Value}{ze:List Int}(h:KN w p J O T zb ze)(H:Au F w w')(hF:∀b,El p J O T b->¬F b):KN w' p J O T zb ze:=by obtain⟨U,V,u,aa⟩:=h;refine⟨U,V,?_,aa⟩;obtain⟨ab,ac,ad⟩:=u.bW;obtain⟨ae,af,ag⟩:=u.bL;exact⟨H.J u.J (hF _ (.inl rfl)),⟨ab,H.J ac (hF _ (.inr (.inl rfl))),ad⟩,⟨ae,H.J af (hF _ (.inr (.inr (.inl rfl)))),ag⟩,u.own.stay H (λk e=>hF k (.inr (.inr (.inr e)))),u.aA,u.bO,u.cG,u.ne,u.bS,u.bH,u.bx,u.cr⟩
theorem Nx.stay(h:Nx (λ_=>False) w za Z zb L E X N bs col)(hi:¬I 0)(J:Au (λb=>I (col b)) w w')(H:∀b,b<w.heap.size->col' b=col b)(ad:∀b,w.heap.size<=b->col' b≠0->za<=b:=by intro b hb _;have:=h.ge;omega):Nx I w' za Z zb L E X N bs col':=by
 have t:=h.ah id;have a:=h.ab id;have r:=h.aM id;have p:=h.hp id;have f:=h.aI id;have q:=h.aD id;have g:=h.aB id;have b:=h.ae id;have V:Au (λb=>col b≠0) w w':=J.mono (λj _ e ae=>hi (by rw[<-ae];exact e));refine⟨λu=>t.same (λb hb O=>J.block b hb (λe=>u (h.c1 b O▸e))),λu=>a.stay J (λb O e=>u (h.c2 b O▸e)),λu=>r.same (λb hb O=>J.block b hb (λe=>u (h.aZ b O▸e))),λu=>p.stay J (λb O e=>u (h.bB b O▸e)),λu=>?_,λu=>?_,λu=>?_,λu=>J.J b (λe=>u (h.aK▸e)),h.cj.next V H,λb hb=>(H b (t.lt hb).2).trans (h.c1 b hb),λb hb=>(H b (a.lt hb).2).trans (h.c2 b hb),λb hb=>(H b (r.lt hb).2).trans (h.aZ b hb),λb hb=>(H b (p.lt hb)).trans (h.bB b hb),?_,λb hb=>?_,?_,(H _ b.lt).trans h.aK,h.cc,h.cu,h.cn,h.bb,h.bU,h.aA,z7 h.ge J.size,λb hb=>?_,h.bo⟩
 . obtain⟨aa,f1,f2⟩:=f;exact⟨aa,J.J f1 (λe=>u (h.bt▸e)),f2⟩
 . obtain⟨ab,T,af⟩:=q;exact QC.stay ⟨ab,T,af⟩ V (λk e=>J.block k (T.J k e).2 (λag=>u (h.bI k e▸ag))) H
 . obtain⟨ac,fn,U,ah⟩:=g;exact⟨ac,fn,U.stay J (λe=>u (h.bC▸e)),ah⟩
 . obtain⟨aa,f1,_⟩:=f;exact(H _ f1.lt).trans h.bt
 . obtain⟨ab,T,_⟩:=q;exact(H b (T.J b hb).2).trans (h.bI b hb)
 . obtain⟨ac,fn,U,_⟩:=g;exact(H _ U.lt).trans h.bC
 . by_cases e:b<w.heap.size
   . rw[H b e]at hb;exact h.b2 b hb
   . exact ad b (by omega) hb
theorem Nx.ext(h:Nx (λ_=>False) w za Z zb L E X N bs col)(u:Ae w w'):Nx (λ_=>False) w' za Z zb L E X N bs (λb=>if b<w.heap.size then col b else 0):=h.stay (I:=λ_=>False) id u.stay (λb hb=>by rw[zq hb])
end
def BE(P:World->Prop)(u w:World)(Z:Cr)(zb:Nat)(L:List (List Int))(E:Cv)(X:CW)(N:Dy)(bs:List Int):Prop:=Ae u w/\∃col,Nx (λ_=>False) w u.heap.size Z zb L E X N bs col/\Jw col P w
section
variable{P:World->Prop}{w0 w w':World}{Z:Cr}{zb:Nat}{L:List (List Int)}{E:Cv}{X:CW}{N:Dy}{bs:List Int}{col:Nat->Nat}
theorem BE.grow{G:Nat->Prop}(u:Ae w0 w)(h:Nx (λ_=>False) w w0 Z zb L E X N bs col)(H:Au G w w')(J:∀b,G b->col b≠0):Ae w0 w':=(Au.ay u H).ext (λb hb=>h.b2 b (J b hb))
theorem BE.ext(h:BE P w0 w Z zb L E X N bs)(u:Ae w w'):BE P w0 w' Z zb L E X N bs:=let⟨H,_,J,O⟩:=h;⟨H.trans u,_,J.ext u,O.next u.stay (λb hb=>by rw[zq hb])⟩
theorem BE.cH{Q:Aj->Prop}(h:BE P w0 w Z zb L E X N bs)(hi:∀W,P W->Q W):BE Q w0 w Z zb L E X N bs:=let⟨u,col,H,J⟩:=h;⟨u,col,H,J.imp hi⟩
theorem BE.here(h:BE P w0 w Z zb L E X N bs):P w:=let⟨_,_,_,u⟩:=h;u.here
theorem BE.dY{Q:Aj->Prop}(h:BE P w0 w Z zb L E X N bs)(O:∀W,Ae w0 W->Q W):BE (λW=>P W/\Q W) w0 w Z zb L E X N bs:=by obtain⟨u,col,H,T⟩:=h;exact⟨u,col,H,λW J=>⟨T W J,O W ((Au.ay u J).ext (λb hb=>H.b2 b hb))⟩⟩
theorem BE.freeze{Q:Aj->Prop}(h:BE P w0 w Z zb L E X N bs)(u:Ae w w')(J:∀col,(∀b,w.heap.size<=b->col b=0)->Jw col Q w'):BE (λW=>P W/\Q W) w0 w' Z zb L E X N bs:=by obtain⟨O,col,T,U⟩:=h;refine⟨O.trans u,_,T.ext u,λW H=>⟨(U.next (col':=λb=>if b<w then col b else 0) u.stay (λb hb=>by rw[zq hb])) W H,J _ (λb hb=>by rw[zo (by omega)]) W H⟩⟩
theorem BE.dB(h:BE P w0 w Z zb L E X N bs){J O:Aw}{R':List AH}{d':Int}{T:An}(H:Au (Ec Z.al Z.au Z.aw Z.bv) w w')(aa:Bm w' w0 Z.al Z.au J O zb R' T)(V:∀b,Ec Z.al Z.au J O b->Ec Z.al Z.au Z.aw Z.bv b\/w<=b)(hb:BS R' d' T):BE P w0 w' {Z with aw:=J,bv:=O} zb L {E with R:=R',d:=d'} X N T:=by
 obtain⟨ab,col,h,ac⟩:=h;have U:=λj u=>h.c1 j u;have k:=h.stay (I:=λx=>x=1) (col':=λb=>if b<w then col b else 1) (by show¬(0:Nat)=1;decide) (H.mono (λj _ u=>U j u)) (λb hb=>by rw[zq hb]);exact⟨BE.grow ab h H (λj u=>by rw[U j u];decide),_,⟨λ_=>aa,λ_=>(h.ab id).stay H (λb hb=>h.bo b hb),λ_=>k.aM (by show¬((3:Nat)=1);decide),λ_=>k.hp (by show¬((4:Nat)=1);decide),λ_=>k.aI (by show¬((5:Nat)=1);decide),λ_=>k.aD (by show¬((6:Nat)=1);decide),λ_=>k.aB (by show¬((7:Nat)=1);decide),λ_=>k.ae (by show¬((8:Nat)=1);decide),k.cj,λb hb=>by
  rcases V b hb with g|g;rw[zq (((h.ah id).lt g).2)];exact h.c1 b g;rw[zo Ad],k.c2,k.aZ,k.bB,k.bt,k.bI,k.bC,k.aK,hb,k.cu,k.cn,k.bb,k.bU,k.aA,k.ge,k.b2,λb hb ad=>by
  rcases V b ad with g|g;exact h.bo b hb g;have:=((h.ab id).lt hb).2;omega⟩,ac.next (H.mono (λj _ u=>by show col j≠0;rw[U j u];decide)) (λb hb=>by rw[zq hb])⟩
theorem BE.eb(h:BE P w0 w Z zb L E X N bs){H:Aw}{J O:Nat}{A':Fb}(T:Au (LQ Z.ap Z.ao Z.a8) w w')(V:BL w' w0 Z.ap J H O A')(aa:∀b,LQ Z.ap J H b->LQ Z.ap Z.ao Z.a8 b\/w<=b)(ab:O+(Bv A'.rows).length<=2*A'.rows.length/\A'.rows.length<=200000):BE P w0 w' {Z with ao:=J,a8:=H,aX:=O} zb L {E with A:=A'} X N bs:=by obtain⟨ac,col,h,ad⟩:=h;have U:=λj u=>h.aZ j u;have k:=h.stay (I:=λx=>x=3) (col':=λb=>if b<w then col b else 3) (by show¬(0:Nat)=3;decide) (T.mono (λj _ u=>U j u)) (λb hb=>by rw[zq hb]);exact⟨BE.grow ac h T (λj u=>by rw[U j u];decide),_,⟨λ_=>k.ah (by show¬((1:Nat)=3);decide),λ_=>k.ab (by show¬((1:Nat)=3);decide),λ_=>V,λ_=>k.hp (by show¬((4:Nat)=3);decide),λ_=>k.aI (by show¬((5:Nat)=3);decide),λ_=>k.aD (by show¬((6:Nat)=3);decide),λ_=>k.aB (by show¬((7:Nat)=3);decide),λ_=>k.ae (by show¬((8:Nat)=3);decide),k.cj,k.c1,k.c2,λb hb=>by rcases aa b hb with g|g;rw[zq (((h.aM id).lt g).2)];exact h.aZ b g;rw[zo Ad],k.bB,k.bt,k.bI,k.bC,k.aK,k.cc,k.cu,k.cn,ab,k.bU,k.aA,k.ge,k.b2,k.bo⟩,ad.next (T.mono (λj _ u=>by show col j≠0;rw[U j u];decide)) (λb hb=>by rw[zq hb])⟩
theorem BE.cD(h:BE P w0 w Z zb L E X N bs){rv':Aw}{row':An}(H:Au (El Z.hp Z.gs Z.cd Z.bJ) w w')(O:KN w' Z.hp Z.gs Z.cd rv' zb row')(T:∀b,El Z.hp Z.gs Z.cd rv' b->El Z.hp Z.gs Z.cd Z.bJ b\/w<=b):BE P w0 w' {Z with bJ:=rv'} zb L {E with row:=row'} X N bs:=by obtain⟨U,col,h,V⟩:=h;have J:=λj u=>h.bB j u;have k:=h.stay (I:=λx=>x=4) (col':=λb=>if b<w then col b else 4) (by show¬(0:Nat)=4;decide) (H.mono (λj _ u=>J j u)) (λb hb=>by rw[zq hb]);exact⟨BE.grow U h H (λj u=>by rw[J j u];decide),_,⟨λ_=>k.ah (by show¬((1:Nat)=4);decide),λ_=>k.ab (by show¬((1:Nat)=4);decide),λ_=>k.aM (by show¬((3:Nat)=4);decide),λ_=>O,λ_=>k.aI (by show¬((5:Nat)=4);decide),λ_=>k.aD (by show¬((6:Nat)=4);decide),λ_=>k.aB (by show¬((7:Nat)=4);decide),λ_=>k.ae (by show¬((8:Nat)=4);decide),k.cj,k.c1,k.c2,k.aZ,λb hb=>by rcases T b hb with g|g;rw[zq ((h.hp id).lt g)];exact h.bB b g;rw[zo Ad],k.bt,k.bI,k.bC,k.aK,k.cc,k.cu,k.cn,k.bb,k.bU,k.aA,k.ge,k.b2,k.bo⟩,V.next (H.mono (λj _ u=>by show col j≠0;rw[J j u];decide)) (λb hb=>by rw[zq hb])⟩
theorem BE.eP(h:BE P w0 w Z zb L E X N bs)(H:Au (λb=>b=Z.aI) w w')(O:GG w' Z.aI zb):BE P w0 w' Z zb L E X N bs:=by
 obtain⟨T,col,h,U⟩:=h;have J:∀j,(j=Z.aI)->col j=5:=λj u=>by rw[u];exact h.bt
 have k:=h.stay (I:=λx=>x=5) (col':=λb=>if b<w then col b else 5) (by show¬(0:Nat)=5;decide) (H.mono (λj _ u=>J j u)) (λb hb=>by rw[zq hb]);have V:Au (λb=>col b≠0) w w':=H.mono (λj _ u=>by show col j≠0;rw[J j u];decide);exact⟨BE.grow T h H (λj u=>by rw[J j u];decide),_,⟨λ_=>k.ah (by show¬((1:Nat)=5);decide),λ_=>k.ab (by show¬((1:Nat)=5);decide),λ_=>k.aM (by show¬((3:Nat)=5);decide),λ_=>k.hp (by show¬((4:Nat)=5);decide),λ_=>O,λ_=>k.aD (by show¬((6:Nat)=5);decide),λ_=>k.aB (by show¬((7:Nat)=5);decide),λ_=>k.ae (by show¬((8:Nat)=5);decide),k.cj,k.c1,k.c2,k.aZ,k.bB,k.bt,k.bI,k.bC,k.aK,k.cc,k.cu,k.cn,k.bb,k.bU,k.aA,k.ge,k.b2,k.bo⟩,U.next V (λb hb=>by rw[zq hb])⟩
theorem BE.dv(h:BE P w0 w Z zb L E X N bs){gn':Nat}(H:Au (λb=>b=Z.aB) w w')(O:Jo w' Z.aB gn'):BE P w0 w' Z zb L E X {N with a7:=gn'} bs:=by
 obtain⟨T,col,h,U⟩:=h;have J:∀j,(j=Z.aB)->col j=7:=λj u=>by rw[u];exact h.bC
 have k:=h.stay (I:=λx=>x=7) (col':=λb=>if b<w then col b else 7) (by show¬(0:Nat)=7;decide) (H.mono (λj _ u=>J j u)) (λb hb=>by rw[zq hb]);have V:Au (λb=>col b≠0) w w':=H.mono (λj _ u=>by show col j≠0;rw[J j u];decide);exact⟨BE.grow T h H (λj u=>by rw[J j u];decide),_,⟨λ_=>k.ah (by show¬((1:Nat)=7);decide),λ_=>k.ab (by show¬((1:Nat)=7);decide),λ_=>k.aM (by show¬((3:Nat)=7);decide),λ_=>k.hp (by show¬((4:Nat)=7);decide),λ_=>k.aI (by show¬((5:Nat)=7);decide),λ_=>k.aD (by show¬((6:Nat)=7);decide),λ_=>O,λ_=>k.ae (by show¬((8:Nat)=7);decide),k.cj,k.c1,k.c2,k.aZ,k.bB,k.bt,k.bI,k.bC,k.aK,k.cc,k.cu,k.cn,k.bb,k.bU,k.aA,k.ge,k.b2,k.bo⟩,U.next V (λb hb=>by rw[zq hb])⟩
theorem BE.cM(h:BE P w0 w Z zb L E X N bs){X':CW}{N':Dy}{id':Int}(H:Au (λb=>b=Z.e) w w')(O:Aq w' Z.e 176 (Bc Z zb X' N' id'))(T:(0<=N'.bQ/\N'.bQ<=100)/\0<=N'.aa/\N'.aa<=4000000000)(U:-9223372036854775808<=N'.keep/\N'.keep<=Bh)(V:N'.a7=N.a7):BE P w0 w' Z zb L {E with id:=id'} X' N' bs:=by
 obtain⟨aa,col,h,ab⟩:=h;have J:∀j,(j=Z.e)->col j=8:=λj u=>by rw[u];exact h.aK
 have k:=h.stay (I:=λx=>x=8) (col':=λb=>if b<w then col b else 8) (by show¬(0:Nat)=8;decide) (H.mono (λj _ u=>J j u)) (λb hb=>by rw[zq hb]);have ac:Au (λb=>col b≠0) w w':=H.mono (λj _ u=>by show col j≠0;rw[J j u];decide);exact⟨BE.grow aa h H (λj u=>by rw[J j u];decide),_,⟨λ_=>k.ah (by show¬((1:Nat)=8);decide),λ_=>k.ab (by show¬((1:Nat)=8);decide),λ_=>k.aM (by show¬((3:Nat)=8);decide),λ_=>k.hp (by show¬((4:Nat)=8);decide),λ_=>k.aI (by show¬((5:Nat)=8);decide),λ_=>k.aD (by show¬((6:Nat)=8);decide),λ_=>by rw[V];exact k.aB (by show¬(7:Nat)=8;decide),λ_=>O,k.cj,k.c1,k.c2,k.aZ,k.bB,k.bt,k.bI,k.bC,k.aK,k.cc,T,U,k.bb,k.bU,k.aA,k.ge,k.b2,k.bo⟩,ab.next ac (λb hb=>by rw[zq hb])⟩
def Cr.bg(Z:Cr)(za zb:Nat)(bs:An):GA:=⟨za,Z.ap,Z.al,Z.au,Z.Y.q,zb,bs⟩
theorem Nx.pm(h:Nx (λ_=>False) w w0 Z zb L E X N bs col):EQ w (Gj (Z.bg w0 zb bs) Z.Y E.W Z.aw Z.bv) (Z.bg w0 zb bs) E.R E.W E.seen w Z.Y Z.aw Z.bv:=EQ.start (C:=Z.bg w0 zb bs) (h.ab id) (h.ah id) h.bo rfl
theorem BE.df{R':List AH}{W':By}{seen':An}{O:C7}{T U:Aw}(h:BE P w0 w Z zb L E X N bs)(u:EQ w (Gj (Z.bg w0 zb bs) Z.Y E.W Z.aw Z.bv) (Z.bg w0 zb bs) R' W' seen' w' O T U)(hb:BS R' E.d bs):BE P w0 w' {Z with aw:=T,bv:=U,Y:=O} zb L {E with R:=R',W:=W',seen:=seen'} X N bs:=by
 obtain⟨ab,col,h,ac⟩:=h;have J:∀j,Gj (Z.bg w0 zb bs) Z.Y E.W Z.aw Z.bv j->col j=1:=λj H=>H.elim (h.c2 j) (h.c1 j);have V:∀j,Gj (Z.bg w0 zb bs) Z.Y E.W Z.aw Z.bv j->j<w:=λj H=>H.elim (λg=>((h.ab id).lt g).2) (λg=>((h.ah id).lt g).2);have k:=h.stay (I:=λx=>x=1) (col':=λb=>if b<w then col b else 1) (by show¬(0:Nat)=1;decide) (u.st.mono (λj _ H=>J j H)) (λb hb=>by rw[zq hb]);exact⟨BE.grow ab h u.st (λj H=>by rw[J j H];decide),_,⟨λ_=>u.ah,λ_=>u.ab,λ_=>k.aM (by show¬((3:Nat)=1);decide),λ_=>k.hp (by show¬((4:Nat)=1);decide),λ_=>k.aI (by show¬((5:Nat)=1);decide),λ_=>k.aD (by show¬((6:Nat)=1);decide),λ_=>k.aB (by show¬((7:Nat)=1);decide),λ_=>by
  have aa:=k.ae (by show¬(8:Nat)=1;decide);unfold Bc at aa⊢;dsimp only;rw[u.av];exact aa,k.cj,λb hb=>by
  rcases u.cv b hb with g|g;rw[zq (V b g)];exact J b g;rw[zo Ad],λb hb=>by
  rcases u.cw b hb with g|g;rw[zq (V b g)];exact J b g;rw[zo Ad],k.aZ,k.bB,k.bt,k.bI,k.bC,k.aK,hb,k.cu,k.cn,k.bb,k.bU,k.aA,k.ge,k.b2,u.bo⟩,ac.next (u.st.mono (λj _ H=>by show col j≠0;rw[J j H];decide)) (λb hb=>by rw[zq hb])⟩
theorem BE.dM{pv':Aw}{z:Cz}{A:AD}{n c:Nat}{A':AD}{n' c':Nat}{O:List Aw}{u:Aj}(af:Ae w0 w)(h:Nx (λ_=>False) w w0 Z zb L E X N bs col)(ag:Jw col P w)(ah:FP col w E.P O)(hF:Jw col (λW=>AB W A n z.lits/\AB W A' n' z.hints) w)(aj:n<=c)(ak:n'<=c') (al:w.grownBy u Z.aV.ownBlock)(am:AP u w0 105 4 pv' (E.P.length+1) (O++encS z A n c A' n' c'))(V:pv'.ownBlock=Z.aV.ownBlock\/∀k,pv'.ownBlock=some k->w<=k):BE P w0 (u.setCell ⟨Z.e,15,none⟩ pv') {Z with aV:=pv'} zb L {E with P:=E.P++[z]} X N bs:=by
 have aa:=h.ae id;obtain⟨au,an,av⟩:=h.aD id;have ab:Au (λb=>Z.aV.ownBlock=some b) w u:=(Au.refl _ w).grown al (λk e=>.inl e);have T:Au (λb=>col b=6\/col b=8) w (u.setCell ⟨Z.e,15,none⟩ pv'):=(ab.mono (λj _ H=>.inl (h.bI j H))).setCell (p:=⟨Z.e,15,none⟩) (.inl (.inr h.aK)) _;have ac:=T.mono (λj _ H=>by rcases H with e|e<;>(show col j≠0;rw[e];decide));have U:∀b,b<w.heap.size->(λb=>if b<w.heap.size then col b else 6) b=col b:=λb hb=>by dsimp only;rw[zq hb]
 have k:=h.stay (I:=λx=>x=6\/x=8) (col':=λb=>if b<w then col b else 6) (by show¬((0:Nat)=6\/(0:Nat)=8);decide) T U;have ad:∀k,Z.aV.ownBlock=some k->k≠Z.e:=λk e J=>by have ae:=h.bI k e;rw[J,h.aK]at ae;cases ae
 have ao:∀k,pv'.ownBlock=some k->k≠Z.e:=λk e J=>by rcases V with g|g;exact ad k (g▸e) J;have:=g k e;have:=aa.lt;omega
 exact⟨BE.grow af h T (λj H=>by rcases H with e|e<;>(rw[e];decide)),_,⟨λ_=>k.ah (by show¬((1:Nat)=6\/(1:Nat)=8);decide),λ_=>k.ab (by show¬((1:Nat)=6\/(1:Nat)=8);decide),λ_=>k.aM (by show¬((3:Nat)=6\/(3:Nat)=8);decide),λ_=>k.hp (by show¬((4:Nat)=6\/(4:Nat)=8);decide),λ_=>k.aI (by show¬((5:Nat)=6\/(5:Nat)=8);decide),λ_=>⟨O++encS z A n c A' n' c',by rw[zu];exact am.stay ((Au.refl (λb=>b=Z.e) u).setCell (p:=⟨Z.e,15,none⟩) (.inl rfl) _) (λk e J=>ao k e J),(ah.snoc aj ak hF).next ac U⟩,λ_=>k.aB (by show¬((7:Nat)=6\/(7:Nat)=8);decide),λ_=>by
  have aq:=(ab.J aa (λe=>ad _ e rfl)).ad 15 pv';exact aq,k.cj,k.c1,k.c2,k.aZ,k.bB,k.bt,λb hb=>by
  rcases V with g|g;rw[g]at hb;rw[zq (an.J b hb).2];exact h.bI b hb;rw[zo (by have:=g b hb;omega)],k.bC,k.aK,k.cc,k.cu,k.cn,k.bb,k.bU,k.aA,k.ge,k.b2,k.bo⟩,ag.next ac U⟩
end
section
variable{P:World->Prop}{w0 w w':World}{Z:Cr}{zb:Nat}{L:List (List Int)}{E:Cv}{X:CW}{N:Dy}{bs:List Int}
theorem BE.ae(h:BE P w0 w Z zb L E X N bs):Aq w Z.e 176 (Bc Z zb X N E.id):=let⟨_,_,u,_⟩:=h;u.ae id
theorem BE.bF(h:BE P w0 w Z zb L E X N bs):((0<=N.bQ/\N.bQ<=100)/\0<=N.aa/\N.aa<=4000000000)/\-9223372036854775808<=N.keep/\N.keep<=Bh:=let⟨_,_,u,_⟩:=h;⟨u.cu,u.cn⟩
theorem BE.cz(h:BE P w0 w Z zb L E X N bs)(r:Int):BE P w0 (w.setCell ⟨Z.e,11,none⟩ r) Z zb L E {X with conflict:=r} N bs:=h.cM (X':={X with conflict:=r}) (N':=N) (id':=E.id) ((Au.refl (λb=>b=Z.e) w).setCell (p:=⟨Z.e,11,none⟩) (.inl rfl) _) (h.ae.ad 11 _) h.bF.1 h.bF.2 rfl
theorem BE.c6(h:BE P w0 w Z zb L E X N bs)(b:Bool):BE P w0 (w.setCell ⟨Z.e,12,none⟩ b) Z zb L E {X with calm:=b} N bs:=h.cM (X':={X with calm:=b}) (N':=N) (id':=E.id) ((Au.refl (λb=>b=Z.e) w).setCell (p:=⟨Z.e,12,none⟩) (.inl rfl) _) (h.ae.ad 12 _) h.bF.1 h.bF.2 rfl
theorem BE.eo(h:BE P w0 w Z zb L E X N bs)(r:Int):BE P w0 (w.setCell ⟨Z.e,13,none⟩ r) Z zb L E {X with conflicts:=r} N bs:=h.cM (X':={X with conflicts:=r}) (N':=N) (id':=E.id) ((Au.refl (λb=>b=Z.e) w).setCell (p:=⟨Z.e,13,none⟩) (.inl rfl) _) (h.ae.ad 13 _) h.bF.1 h.bF.2 rfl
theorem BE.du(h:BE P w0 w Z zb L E X N bs)(b:Bool):BE P w0 (w.setCell ⟨Z.e,14,none⟩ b) Z zb L E {X with aJ:=b} N bs:=h.cM (X':={X with aJ:=b}) (N':=N) (id':=E.id) ((Au.refl (λb=>b=Z.e) w).setCell (p:=⟨Z.e,14,none⟩) (.inl rfl) _) (h.ae.ad 14 _) h.bF.1 h.bF.2 rfl
theorem BE.eU(h:BE P w0 w Z zb L E X N bs)(r:Int):BE P w0 (w.setCell ⟨Z.e,10,none⟩ r) Z zb L {E with id:=r} X N bs:=h.cM (X':=X) (N':=N) (id':=r) ((Au.refl (λb=>b=Z.e) w).setCell (p:=⟨Z.e,10,none⟩) (.inl rfl) _) (h.ae.ad 10 _) h.bF.1 h.bF.2 rfl
theorem BE.dX(h:BE P w0 w Z zb L E X N bs)(r:Int)(u:0<=r/\r<=4000000000):BE P w0 (w.setCell ⟨Z.e,9,none⟩ r) Z zb L E X {N with aa:=r} bs:=h.cM (X':=X) (N':={N with aa:=r}) (id':=E.id) ((Au.refl (λb=>b=Z.e) w).setCell (p:=⟨Z.e,9,none⟩) (.inl rfl) _) (h.ae.ad 9 _) ⟨h.bF.1.1,u⟩ h.bF.2 rfl
end
def Gc(w:Aj)(e q:Nat)(h:w.cell? ⟨e,4,none⟩=some (.pointer q)):AC 145 #[.pointer e] w λe w'=>e=.returned true/\w=w':=by go_enter func145,ntmps145;go_wp2;go_ret;exact⟨rfl,rfl⟩
def Adq(w:World)(e q:Nat)(b:Bool)(h:w.cell? ⟨e,4,none⟩=some (.pointer (some ⟨q,0,none⟩)))(H:w.cell? ⟨e,14,none⟩=some (.bool b)):AC 85 #[.pointer e] w λe w'=>e=.returned b/\w=w':=by
 have u:=Gc w e q h;go_enter func85,ntmps85;go_wp2_with fail
 refine u.mono ?_;rintro e J⟨rfl,rfl⟩;go_wp2;go_ret;exact⟨rfl,rfl⟩
def Ti(w:World)(e q:Nat)(n:Int)(h:w.cell? ⟨e,4,none⟩=some (.pointer (some ⟨q,0,none⟩)))(H:w.cell? ⟨e,13,none⟩=some (.int .i64 n)):AC 87 #[.pointer e] w λe w'=>e=.returned n/\w=w':=by
 have u:=Gc w e q h;go_enter func87,ntmps87;go_wp2_with fail
 refine u.mono ?_;rintro e J⟨rfl,rfl⟩;go_wp2;go_ret;exact⟨rfl,rfl⟩
def Aeq{P:Aj->Prop}{w0 w:Aj}{Z:Cr}{zb:Nat}{L:AT}{E:Cv}{X:CW}{N:Dy}{bs:An}(h:BE P w0 w Z zb L E X N bs)(u:C0 L zb E):∀x c,AY E.A.rows x=some c->(0<=x/\x<=Bh)/\c.Nodup/\∀l∈c,AV l zb=0:=λx c H=>by obtain⟨_,_,J,_⟩:=h;have O:=KJ u.aS H;have T:=(J.aM id).len;have U:=u.aS.size;exact⟨⟨O.1,Ad⟩,u.ok x c H⟩
def Aa2(P:Aj->Prop)(w0:Aj)(zb:Nat)(L:AT)(Z:Cr)(E:Cv)(X:CW)(N:Dy)(bs:An)(e:Bz)(w':Aj):Prop:=∃(r:Int)(u:Cr)(R':List AH)(W':By),e=.returned (.bool (!decide (r<0)))/\u.e=Z.e/\BE P w0 w' u zb L {E with R:=R',W:=W',seen:=Az R'} {X with conflict:=r,calm:=decide (r<0)} N bs/\Grown E.d E.R R'/\CC L zb {E with R:=R',W:=W',seen:=Az R'} {X with conflict:=r,calm:=decide (r<0)}
def AcB(P:Aj->Prop)(w0 w:Aj)(Z:Cr)(zb:Nat)(L:AT)(E:Cv)(X:CW)(N:Dy)(bs:An)(u:BE P w0 w Z zb L E X N bs)(H:CC L zb E X)(ag:X.aJ=false):AC 86 #[.pointer Z.e] w (Aa2 P w0 zb L Z E X N bs):=by
 have U:=u.ae.cell 4;have V:=u.ae.cell 14;unfold Bc at U V;rw[ag]at V;have ah:=Aeq u H.inv;have aj:AC 146 #[.pointer Z.Y.q] w (Ur w (Gj (Z.bg w0 zb bs) Z.Y E.W Z.aw Z.bv) (Z.bg w0 zb bs) E.d (AY E.A.rows) E.R):=by obtain⟨_,ax,aa,_⟩:=u;exact Aha w w _ (Z.bg w0 zb bs) Z.aw Z.bv Z.Y E.W E.seen E.R E.d (AY E.A.rows) aa.pm H.inv.az H.inv.ah H.inv.aG H.inv.af ah aa.cc
 go_enter func86,ntmps86;go_wp2_with fail
 refine(Gc w Z.e Z.Y.q U).mono ?_;rintro e ak⟨rfl,rfl⟩;go_wp2_with fail
 refine aj.mono ?_;rintro e ak⟨r,R',W',al,am,an,rfl,ao,aq,O,au⟩;have T:=u.df ao (GL (let⟨_,_,av,_⟩:=u;av.cc) O);have J:=T.cz r;have ab:=J.c6 (decide (r<0));have aw:=H.prop (r:=r) aq O (au.imp (λh=>⟨by rw[h.1];decide,h.2⟩) id);have f11:=T.ae.frozen 11;have ac:=T.ae.cell 11;have f12:=J.ae.frozen 12;have ad:=J.ae.cell 12;have ae:=J.ae.cell 11;have af:=ab.ae.cell 12;unfold Bc at ac ad ae af;dsimp only at f11 ac f12 ad ae af;go_wp2;go_ret;exact⟨r,{Z with aw:=am,bv:=an,Y:=al},R',W',rfl,rfl,ab,O,aw⟩
def GG.at_{w:World}{u zb v:Nat}(h:GG w u zb)(J:v<=zb):∃b,w.cell? ⟨u,v,none⟩=some (.bool b)/\w.frozen? ⟨u,v,none⟩=false:=by obtain⟨T,H,U,O⟩:=h;obtain⟨b,hb⟩:=O v J;exact⟨b,(H.cell v).trans hb,H.frozen v⟩
def GG.set{w:Aj}{H zb v:Nat}(h:GG w H zb)(b:Bool):GG (w.setCell ⟨H,v,none⟩ b) H zb:=by obtain⟨J,O,T,U⟩:=h;refine⟨J.setIfInBounds v b,O.ad v _,by rw[yr];exact T,λu V=>?_⟩;rw[abp];by_cases e:v=u;subst e;rw[zq rfl,zq Ad];exact⟨b,rfl⟩;rw[zo e];exact U u V
section
variable{P:World->Prop}{w0 w w':World}{Z:Cr}{zb:Nat}{L:List (List Int)}{E:Cv}{X:CW}{N:Dy}{bs:List Int}
theorem BE.aI(h:BE P w0 w Z zb L E X N bs):GG w Z.aI zb:=let⟨_,_,u,_⟩:=h;u.aI id
theorem BE.hp(h:BE P w0 w Z zb L E X N bs):KN w Z.hp Z.gs Z.cd Z.bJ zb E.row:=let⟨_,_,u,_⟩:=h;u.hp id
theorem BE.ah(h:BE P w0 w Z zb L E X N bs):Bm w w0 Z.al Z.au Z.aw Z.bv zb E.R bs/\BS E.R E.d bs:=let⟨_,_,u,_⟩:=h;⟨u.ah id,u.cc⟩
theorem BE.aM(h:BE P w0 w Z zb L E X N bs):BL w w0 Z.ap Z.ao Z.a8 Z.aX E.A:=let⟨_,_,u,_⟩:=h;u.aM id
end
def Mi(Z:Cr)(u:Aw)(b:Nat):Prop:=El Z.hp Z.gs Z.cd u b\/b=Z.aI
def Sg(P:Aj->Prop)(w0:Aj)(zb:Nat)(L:AT)(Z:Cr)(E:Cv)(X:CW)(N:Dy)(k:Int)(e:Bz)(w':Aj):Prop:=e=.returned (.tuple #[])/\∃(u:Cr)(ze:An)(H:An),u.e=Z.e/\BE P w0 w' u zb L {E with R:=Bp E.R k,d:=k,row:=ze} {X with conflict:=-1,calm:=false} N H/\(∀v,v∈E.row->v∈ze)/\∀r∈Fy E.R k,Ak r.lit∈ze
def KN.eh{w:Aj}{p u H:Nat}{J:Aw}{zb:Nat}{ze:An}(h:KN w p u H J zb ze):∀x∈ze,1<=x/\x<=zb:=by obtain⟨T,U,V,O,_⟩:=h;exact O.aN
def TS(P:Aj->Prop)(w0 w:Aj)(Z:Cr)(zb:Nat)(L:AT)(E:Cv)(X:CW)(N:Dy)(bs:An)(k:Int)(aa:BE P w0 w Z zb L E X N bs)(af:DW ⟨zb,E.R,E.d⟩)(bJ:0<=k/\k<=E.d)(bK:E.d<=1000000):AC 154 #[.pointer Z.e,k] w (Sg P w0 zb L Z E X N k):=by
 have aJ:=aa.ae.cell 0;unfold Bc at aJ;obtain⟨al,aK⟩:=aa.ah;have ab:=ZP w w0 Z.al Z.au Z.aw Z.bv ⟨zb,E.R,E.d⟩ zb bs k rfl al af aK Ad Ad;have ag:Ez k=k:=by unfold Ez;rw[zo Ad]
 have am:(GH ⟨zb,E.R,E.d⟩ k).rows=Bp E.R k/\(GH ⟨zb,E.R,E.d⟩ k).depth=k:=by unfold GH;dsimp only;rw[ag];refine⟨rfl,?_⟩;split<;>omega
 have aL:MO ⟨zb,E.R,E.d⟩ k=(Az (Fy E.R k)).reverse:=by unfold MO;dsimp only;rw[ag]
 have an:∀l∈(Az (Fy E.R k)).reverse,AV l zb=0:=λl U=>by rw[List.mem_reverse]at U;obtain⟨r,ao,rfl⟩:=zw.1 U;exact af.lits r (ye.1 ao).1
 have aq:(Az (Fy E.R k)).reverse.length<=100000:=by rw[List.length_reverse,Cd];have au:=D5 af;have aM:(Fy E.R k).length<=E.R.length:=yl _ _;have bL:=al.aA;omega
 unfold Ug at ab;rw[am.1,am.2,aL]at ab;obtain⟨out,av⟩:∃o,(Az (Fy E.R k)).reverse=o:=⟨_,rfl⟩;rw[av]at ab an aq;have bf:=ab;have aN:=zk an;have aO:=aq;have bh:=zk av;clear af ab ag am aL al aK an aq av;go_enter func154,ntmps154;go_wp2_with fail
 refine bf.mono ?_;rintro e bi⟨v,aP,rfl,ac,⟨aQ,aR,aS,aT,aU⟩,hb⟩;obtain⟨A,n,c,rfl⟩:=ac.form;have aV:n=out.length:=ac.aL;have bj:=aa.dB aT aS (λb hb=>.inl (aU b hb)) hb;have bk:Jm A n c out bi (Mi Z Z.bJ):=⟨ac.bK (zx _),λb e hb=>by
  have au:=(ac.J b e).1;rcases hb with g|rfl
  . have:=aa.hp.lt g;omega
  . obtain⟨bM,g,_⟩:=aa.aI;have:=g.lt;omega,aO,λy bn=>by have:=AU (aN y bn);omega⟩
 have br:=zk aV;have bN:(n:Int)<=100000:=by have:=aO;omega
 clear ac aS aT aU hb aV aJ;go_wp2;go_loopw[13](λi wr=>∃(j:Nat)(rv1:Aw)(row1:An),i=j/\j<=n/\BE P w0 wr {Z with aw:=aQ,bv:=aR,bJ:=rv1} zb L {E with R:=Bp E.R k,d:=k,row:=row1} X N aP/\Jm A n c out wr (Mi Z rv1)/\(∀v,v∈E.row->v∈row1)/\∀x∈out.take j,Ak x∈row1)(λi _=>n-(intOf i).toNat);case atStart=>exact⟨0,Z.bJ,E.row,rfl,zx _,bj,bk,λv h=>h,λx J=>by simp at J⟩
 case round=>
  obtain⟨j,rv1,row1,rfl,bO,O,aW,aw,ax⟩:=hrel;by_cases bt:j<n
  . obtain⟨bP,l,rfl,U,ag,bQ,bR⟩:=aW.aC.at_ bt;have bu:=AU (aN l (zm U));obtain⟨v,aX⟩:∃v:Nat,Ak l=(v:Int):=⟨(Ak l).toNat,Ad⟩;have aY:1<=v:=Ad;have ay:v<=zb:=Ad;have ad:=zk aX;have bS:(0:Int)<=(v:Int):=Ad;have bT:(v:Int)<(zb:Int)+1:=Ad;have bU:v<zb+1:=Ad;have bV:(j:Int)<(n:Int):=Ad;have bW:(0:Int)<=(j:Int):=Ad;have aZ:=λW'(H:Ae wr W')=>H.cell (O.ae.cell 6);unfold Bc at aZ;clear bu aX;go_wp2;refine CO (n:=9) AJ rfl rfl ?_;simp only[List.take_succ_cons,List.take_zero];(repeat first|apply Bg rfl (λW H=>Am) Am|apply AS rfl Am);apply Bu (λW H=>(BF l W).mono λe w' h=>⟨by rw[h.1,ad.out],by rw[h.2];exact Ae.refl _⟩) rfl (λW H=>by go_simp) Am;(repeat first|apply Bg rfl (λW H=>Am) Am|apply AS rfl Am);refine AN λaz H=>?_;have ah:=O.ext H;have a1:=aW.bn (foot':=Mi Z rv1) (G:=λ_=>False) H.stay (λ_ g=>g.elim) (λ_ g=>.inl g);obtain⟨bX,a5,f0⟩:=ah.aI.at_ ay;have aA:=ah.eP ((Au.refl (λb=>b=Z.aI) az).setCell (p:=⟨Z.aI,v,none⟩) (.inl rfl) (.bool (decide (0<l)))) (ah.aI.set (decide (0<l)));have bw:=a1.bn (foot':=Mi Z rv1) ((Au.refl (λb=>b=Z.aI) az).setCell (p:=⟨Z.aI,v,none⟩) (.inl rfl) (.bool (decide (0<l)))) (λb hb=>.inr hb) (λ_ g=>.inl g);clear H ah a1 aZ;dsimp only at a5 f0;go_wp2;generalize bx:az.setCell ⟨Z.aI,v,none⟩ (.bool (decide (0<l)))=a6 at *;have T:=λW'(H:Ae a6 W')=>H.cell (aA.ae.cell 5);unfold Bc at T;dsimp only at T;have bz:=λW'(H:Ae a6 W')=>(show AC 220 #[.pointer Z.hp,v] W' λe w'=>e=.returned (.bool (decide ((v:Int)∈row1)))/\Ae W' w' from by obtain⟨bY,bZ,au,aM,_⟩:=aA.hp.ext H;exact(L9 W' v au aM aY ay).mono λe w' h=>⟨h.1,by rw[h.2];exact Ae.refl _⟩);clear a5 f0 bx;refine AL AJ ?_;(repeat first|apply Bg rfl (λW H=>Am) Am|apply AS rfl Am);apply Bu (λW H=>(BF l W).mono λe w' h=>⟨by rw[h.1,ad.out],by rw[h.2];exact Ae.refl _⟩) rfl (λW H=>by go_simp) Am;(repeat first|apply Bg rfl (λW H=>Am) Am|apply AS rfl Am);apply Bu (λW H=>bz W H) rfl (λW H=>by go_simp) Am;(repeat first|apply Bg rfl (λW H=>Am) Am|apply AS rfl Am);refine AN λbA H=>?_;have aB:=aA.ext H;have a7:=bw.bn (foot':=Mi Z rv1) (G:=λ_=>False) H.stay (λ_ g=>g.elim) (λ_ g=>.inl g);have T:=λW'(H:Ae bA W')=>H.cell (aB.ae.cell 5);unfold Bc at T;dsimp only at T;clear H;by_cases V:(v:Int)∈row1
    . have ae:=zt V;have aC:=zk (AM U);have aD:(∀x∈out.take (j+1),Ak x∈row1):=λx J=>by
       rw[aC.out]at J;rcases zz.1 J with J|J
       . exact ax x J
       . rw[zy.1 J,ad.out];exact V
      rw[ae];clear V ae T;go_wp2;go_roundw;case rel=>exact⟨j+1,rv1,row1,by go_num,Ad,aB,a7,aw,aD⟩
      case measure=>simp[intOf];omega
    . have ae:=zn V;have aC:=zk (AM U);rw[ae];have bB:=zk V;clear V ae;go_wp2;refine CA Dz (n:=6) AJ rfl rfl ?_;simp only[List.take_succ_cons,List.take_zero];have O:Ht Ae:=Dz;(repeat first|apply Gv O rfl (λW H=>Am) Am|apply AS rfl Am);apply Bu (λW H=>(BF l W).mono λe w' h=>⟨by rw[h.1,ad.out],by rw[h.2];exact Ae.refl _⟩) rfl (λW H=>by go_simp) Am;(repeat first|apply Gv O rfl (λW H=>Am) Am|apply AS rfl Am);refine AN λbC H=>?_;have a8:=aB.ext H;have bD:=a7.bn (foot':=Mi Z rv1) (G:=λ_=>False) H.stay (λ_ g=>g.elim) (λ_ g=>.inl g);have bE:=Afu bC v a8.hp aY ay bB;clear H T;go_wp2_with fail
      refine bE.mono ?_;rintro e b0⟨aj,rfl,⟨a9,ba,aE,aF⟩,aG⟩;have bF:=a8.cD aE ba aF;have bG:=bD.bn (foot':=Mi Z a9) aE (λb hb=>.inl hb) (λb hb=>hb.elim (λg=>(aF b g).imp .inl id) (λg=>.inl (.inr g)));have aH:((∀u,u∈row1->u∈aj)/\(v:Int)∈aj):=⟨λu aI=>aG.mem_iff.2 (by simp[aI]),aG.mem_iff.2 AG⟩;have aD:(∀x∈out.take (j+1),Ak x∈aj):=λx J=>by rw[aC.out]at J;rcases zz.1 J with J|J;exact aH.1 _ (ax x J);rw[zy.1 J,ad.out];exact aH.2
      clear aE ba aF aG;go_wp2;go_roundw;case rel=>exact⟨j+1,a9,aj,by go_num,Ad,bF,bG,λu aI=>aH.1 u (aw u aI),aD⟩
      case measure=>simp[intOf];omega
  . obtain rfl:j=n:=Ad;have ak:=O.cz (-1);have bH:=ak.c6 false;have f11:=O.ae.frozen 11;have bc:=O.ae.cell 11;have f12:=ak.ae.frozen 12;have bd:=ak.ae.cell 12;have bI:=O.ae.frozen 12;have be:=O.ae.cell 12;unfold Bc at bc bd be;dsimp only at f11 bc f12 bd bI be;clear ak;go_wp2;go_end0;refine⟨rfl,{Z with aw:=aQ,bv:=aR,bJ:=rv1},row1,aP,rfl,bH,aw,λr ao=>ax r.lit ?_⟩;rw[z1 (by rw[<-br.out];exact zs _),<-bh.out,List.mem_reverse];exact zw.2 ⟨r,ao,rfl⟩
def Jw.out{H:Nat->Nat}{w:Aj}{A:AD}{n:Nat}{xs:An}(h:Jw H (λW=>AB W A n xs) w)(J:0<n){u:Addr}(O:A=some u):H u.block=0:=by
 by_cases T:H u.block=0;exact T;exfalso;have U:=h.here;obtain⟨ah,V,ad⟩:=U.2.2.2 J;rw[O]at V;cases V;have ae:0<xs.length:=by have:=U.1;omega
 have aa:=zr ae;have af:Au (λb=>H b≠0) w (w.setCell (u.add 0) true):=(Au.refl _ w).setCell (p:=u.add 0) (.inl (by rw[block_add];exact T)) _;obtain⟨aj,ab,ag⟩:=(h _ af).2.2.2 J;rw[O]at ab;cases ab;have ac:=ag 0 _ aa;rw[World.cell?_setCell_same _ _ _ (ad 0 _ aa)]at ac;cases ac
section
variable{P:World->Prop}{w0 w w':World}{Z:Cr}{zb:Nat}{L:List (List Int)}{E:Cv}{X:CW}{N:Dy}{bs:List Int}
theorem BE.out(h:BE P w0 w Z zb L E X N bs){A:AD}{n:Nat}{xs:An}(H:∀W,P W->AB W A n xs):0<n->Fa (LQ Z.ap Z.ao Z.a8) A:=λJ V e O=>by obtain⟨_,aa,T,U⟩:=h;have u:=(U.imp H).out J e;rw[T.aZ _ O]at u;cases u
theorem BE.bb(h:BE P w0 w Z zb L E X N bs):(Z.aX+(Bv E.A.rows).length<=2*E.A.rows.length/\E.A.rows.length<=200000)/\zb<=900:=let⟨_,_,u,_⟩:=h;⟨u.bb,u.aA⟩
theorem BE.pm(h:BE P w0 w Z zb L E X N bs):EQ w (Gj (Z.bg w0 zb bs) Z.Y E.W Z.aw Z.bv) (Z.bg w0 zb bs) E.R E.W E.seen w Z.Y Z.aw Z.bv:=let⟨_,_,u,_⟩:=h;u.pm
end
def AcQ(P:Aj->Prop)(w0:Aj)(zb:Nat)(L:AT)(Z:Cr)(E:Cv)(X:CW)(N:Dy)(bs:An)(zd:An)(b:Bool)(e:Bz)(w':Aj):Prop:=e=.returned E.A.size/\∃(u:Cr)(ze:An),u.e=Z.e/\BE P w0 w' u zb L {E with A:=Du E.A (E.id+1) zd b,W:=E.W.put E.A.size zd,id:=E.id+1,row:=ze} {X with aJ:=X.aJ||decide (zd.length=0)} N bs/\ze.Perm E.row
def Rp(P:Aj->Prop)(w0 w:Aj)(Z:Cr)(zb:Nat)(L:AT)(E:Cv)(X:CW)(N:Dy)(bs:An)(zd:An)(b:Bool)(A:AD)(n c:Nat)(aC:BE P w0 w Z zb L E X N bs)(aw:∀W,P W->AB W A n zd){bS:AT}(aa:C0 bS zb E)(bk:KE (E.id+1) zd)(af:∀x∈zd,AV x zb=0)(b7:0<=E.id/\E.id<=1000000)(aU:E.A.rows.length<200000):AC 82 #[.pointer Z.e,.slice A n c,b] w (AcQ P w0 zb L Z E X N bs zd b):=by
 have bn:=aC.bb;have aV:=aC.eU (E.id+1);have ba:=aC.ae.cell 10;have f10:=aC.ae.frozen 10;have aW:=aV.ae.cell 3;have aX:=aV.ae.cell 10;unfold Bc at ba aW aX;dsimp only at ba f10 aW aX;have bT:IntKind.i64.wrap (E.id+1)=E.id+1:=z5 _ Ad;have br:n=zd.length:=(aw _ aC.here).1.symm;have aY:=Wp bk;have bt:AY E.A.rows E.A.size=none:=by unfold AY;rw[O5 aa.aS (.inl (aat _))];rfl
 have bU:=aa.aS.size;have bu:E.A.size<=1003000000:=by have:=aC.aM.len;omega
 have bc:E.W.af E.A.size=none:=by rw[aa.af];exact bt
 have bw:=aa.aG.out _ bc;have bd:=JF (S:=E.A) (b:=b) (id:=E.id+1) (zd:=zd);have aE:AY (Du E.A (E.id+1) zd b).rows E.A.size=some zd:=by rw[bd.1,Q7 aa.aS,zq rfl]
 have aF:=zk af;have aZ:=zk br;have a1:0<=E.A.size/\E.A.size<=1003000000:=⟨Ad,bu⟩;have bx:=zk bc;have a5:=zk bw;have bV:=zk bd;have bz:=zk aE;clear af bt bU bu bc bw bd aE br;go_enter func82,ntmps82;go_wp2;generalize bW:w.setCell ⟨Z.e,10,none⟩ (.int .i64 (E.id+1))=bA at *;clear ba f10 bW bT;have bB:=λW'(H:Ae bA W')=>H.cell aW;have bC:=λW'(H:Ae bA W')=>H.cell aX;have b8:=aV.out aw;refine Ea [] (λv bD=>v=.tuple #[E.A.size,()]/\∃u:Cr,u.e=Z.e/\BE P w0 bD u zb L {E with id:=E.id+1,A:=Du E.A (E.id+1) zd b} X N bs/\u.Y=Z.Y/\u.hp=Z.hp) (n:=10) (m:=15) (dk:=29) AJ rfl rfl rfl rfl Hu.nil ?_;simp only[List.take_succ_cons,List.take_zero,xp,aai];(repeat apply Ep rfl rfl (λW H=>Am) Am);refine AN ⟨λW' σ H bX=>?_,λσ v bD bY=>?_⟩;simp only[AQ];have a6:=aV.ext H;have bZ:=AfM W' w0 Z.ap Z.ao Z.a8 Z.aX E.A (E.id+1) A n c zd b a6.aM (aw _ a6.here) (λb0=>(a6.out aw b0)) bk (by have:=bn.1;have:=aU;omega);clear H bX bB bC;go_wp2_with fail
 refine bZ.mono ?_;rintro e w2⟨rfl,b1,b2,bE,bF,bG⟩;have aG:=a6.eb bF bE bG (by have a7:=bn.1;have bH:=aU;rw[bV.1];unfold Bv at a7⊢;rw[y5,yo,zu,zu];simp;simp at a7;omega);have b3:=zk aG;clear bE bF bG aG;go_wp2;exact Cp (.tuple #[E.A.size,()]) rfl ⟨rfl,{Z with ao:=b2,a8:=b1,aX:=Z.aX+1},rfl,b3,rfl,rfl⟩
 . obtain⟨rfl,u,bI,aG,bJ,bK⟩:=bY;simp only[AQ];(repeat(first|(apply PU rfl (λW=>Am) Am)|(apply EC rfl Am)));refine Eg λW' H=>?_;have aH:=zk (aG.ext H);have J:=zk (And.intro bI (And.intro bJ bK));clear aG H bB bC bI bJ bK aW aX;have ax:=aH.ae.cell 14;have f14:=aH.ae.frozen 14;unfold Bc at ax;dsimp only at ax f14;rw[J.1]at ax f14;have b9:Hid (∃o,o=X.aJ):=zk ⟨_,rfl⟩;cases ay:X.aJ with
   |true=>
    rw[ay]at ax;have az:(X.aJ||decide (zd.length=0))=true:=by rw[ay];rfl
    have aI:=zk az;have ac:=aH.du true;rw[J.1]at ac;have V:=zk ac;clear ay az ac;have ad:=V.ae.cell 4;unfold Bc at ad;dsimp only at ad;rw[J.1,J.2.1]at ad;go_wp2_with fail
    generalize a8:W'.setCell ⟨Z.e,14,none⟩ true=aD at *;have aA:=T9 aD aD (Gj (u.bg w0 zb bs) u.Y E.W u.aw u.bv) (u.bg w0 zb bs) u.aw u.bv u.Y E.W E.seen E.R w0 u.ao u.aX u.a8 (Du E.A (E.id+1) zd b) E.A.size zd V.pm V.aM bz bx a5.1 a5.2 ⟨⟨a1.1,by have:=a1.2;omega⟩,aY.2.1⟩ aF ⟨E.A.rows.map Cf.pos,by rw[z2];have:=aU;omega,λz d ae=>by rw[aa.af]at ae;obtain⟨r,_,be,bf,_⟩:=EZ ae;exact zw.2 ⟨r,be,bf⟩⟩ (λz ae=>by
      cases bh:E.W.af z with
      |none=>have:=(aa.aG.out z bh).2;rw[ae]at this;cases this
      |some d=>exact⟨d,rfl⟩)
     (by have:=D5 aa.az;show E.R.length<=zb;omega)
    rw[show(u.bg w0 zb bs).q=Z.Y.q from aby C7.q J.2.1]at aA;have bi:=zk aA;clear aA ad ax f14 a8;refine bi.mono ?_;rintro e b4⟨rfl,aB,aJ⟩;have aK:=V.df aJ V.ah.2;have a9:=zk aK;have b5:(n:Int)<=1000:=by have a7:=aY.2.1;have bH:=aZ.out;omega
    clear aJ aK;go_wp2;go_loopw[52](λi wr=>∃(j:Nat)(rv1:Aw)(row1:An),i=j/\j<=n/\BE P w0 wr {u with Y:=aB,bJ:=rv1} zb L {E with A:=Du E.A (E.id+1) zd b,W:=E.W.put E.A.size zd,id:=E.id+1,row:=row1} {X with aJ:=true} N bs/\row1.Perm E.row)(λi _=>n-(intOf i).toNat);case atStart=>exact⟨0,u.bJ,E.row,rfl,zx _,a9,abb _⟩
    case round=>
     obtain⟨j,rv1,row1,rfl,bL,O,ab⟩:=hrel;have ag:=zk O;have ah:=zk ab;by_cases aL:j<n;obtain⟨bM,l,rfl,aM,aE,bN,bO⟩:=(aw _ O.here).at_ aL;have af:=AU (aF l (zm aM));obtain⟨v,aj⟩:∃v:Nat,Ak l=(v:Int):=⟨(Ak l).toNat,Ad⟩;have aN:=zk aj;have aO:=zk (show 1<=v by omega);have aP:=zk (show v<=zb by omega);have bP:(j:Int)<(n:Int):=Ad;have bQ:(0:Int)<=(j:Int):=Ad;have T:=λW'(H:Ae wr W')=>H.cell (O.ae.cell 5);unfold Bc at T;dsimp only at T;rw[J.1,J.2.2]at T;clear O ab af aj;go_wp2;refine CA Dz (n:=6) AJ rfl rfl ?_;simp only[List.take_succ_cons,List.take_zero];have O:Ht Ae:=Dz;(repeat first|apply Gv O rfl (λW H=>Am) Am|apply AS rfl Am);apply Bu (λW H=>(BF l W).mono λe w' h=>⟨by rw[h.1,aN.out],by rw[h.2];exact Ae.refl _⟩) rfl (λW H=>by go_simp) Am;(repeat first|apply Gv O rfl (λW H=>Am) Am|apply AS rfl Am);refine AN λaQ H=>?_;have ak:=zk (ag.ext H);have U:=Mw aQ v 1 ak.hp aO aP Ad Ad;dsimp only at U;rw[J.2.2]at U;have aR:=zk U;clear H T U;go_wp2_with fail
     refine aR.mono ?_;rintro e bR⟨al,rfl,⟨am,an,ao,aq⟩,au⟩;have av:=ak.cD (rv':=am) (row':=al) (by dsimp only;rw[J.2.2];exact ao) (by dsimp only;rw[J.2.2];exact an) (by dsimp only;rw[J.2.2];exact aq);have aS:=zk av;have aT:=zk (au.trans ah);clear ao an aq au av;go_wp2;go_roundw;case rel=>exact⟨j+1,am,al,by go_num,Ad,aS,aT⟩
     case measure=>simp[intOf];omega
     obtain rfl:j=n:=Ad;clear O ab;go_wp2;go_ret;refine⟨rfl,{u with Y:=aB,bJ:=rv1},row1,J.1,?_,ah⟩;rw[aI.out];exact ag
   |false=>
    rw[ay]at ax;by_cases bj:n=0;focus
     have az:(X.aJ||decide (zd.length=0))=true:=by rw[ay,<-aZ.out,bj];rfl
     have aI:=zk az;have ac:=aH.du true;rw[J.1]at ac;have V:=zk ac;have b6:((n:Int)==0)=true:=by rw[x3];omega
    rotate_left;focus
     have az:(X.aJ||decide (zd.length=0))=false:=by rw[ay,<-aZ.out];simp[bj]
     have aI:=zk az;have ac:=aH.du false;rw[J.1]at ac;have V:=zk ac;have b6:((n:Int)==0)=false:=by rw[yv];omega
    all_goals clear ay az ac bj;have ad:=V.ae.cell 4;unfold Bc at ad;dsimp only at ad;rw[J.1,J.2.1]at ad;go_wp2_with fail
    focus generalize a8:W'.setCell ⟨Z.e,14,none⟩ false=aD at *
    rotate_left;focus generalize a8:W'.setCell ⟨Z.e,14,none⟩ true=aD at *
    all_goals
     have aA:=T9 aD aD (Gj (u.bg w0 zb bs) u.Y E.W u.aw u.bv) (u.bg w0 zb bs) u.aw u.bv u.Y E.W E.seen E.R w0 u.ao u.aX u.a8 (Du E.A (E.id+1) zd b) E.A.size zd V.pm V.aM bz bx a5.1 a5.2 ⟨⟨a1.1,by have:=a1.2;omega⟩,aY.2.1⟩ aF ⟨E.A.rows.map Cf.pos,by rw[z2];have:=aU;omega,λz d ae=>by rw[aa.af]at ae;obtain⟨r,_,be,bf,_⟩:=EZ ae;exact zw.2 ⟨r,be,bf⟩⟩ (λz ae=>by
       cases bh:E.W.af z with
       |none=>have:=(aa.aG.out z bh).2;rw[ae]at this;cases this
       |some d=>exact⟨d,rfl⟩)
      (by have:=D5 aa.az;show E.R.length<=zb;omega)
     rw[show(u.bg w0 zb bs).q=Z.Y.q from aby C7.q J.2.1]at aA;have bi:=zk aA;clear aA ad ax f14 a8;refine bi.mono ?_;rintro e b4⟨rfl,aB,aJ⟩;have aK:=V.df aJ V.ah.2;have a9:=zk aK;have b5:(n:Int)<=1000:=by have a7:=aY.2.1;have bH:=aZ.out;omega
     clear aJ aK;go_wp2
    . go_loopw[52](λi wr=>∃(j:Nat)(rv1:Aw)(row1:An),i=j/\j<=n/\BE P w0 wr {u with Y:=aB,bJ:=rv1} zb L {E with A:=Du E.A (E.id+1) zd b,W:=E.W.put E.A.size zd,id:=E.id+1,row:=row1} {X with aJ:=true} N bs/\row1.Perm E.row)(λi _=>n-(intOf i).toNat);case atStart=>exact⟨0,u.bJ,E.row,rfl,zx _,a9,abb _⟩
      case round=>
       obtain⟨j,rv1,row1,rfl,bL,O,ab⟩:=hrel;have ag:=zk O;have ah:=zk ab;by_cases aL:j<n;obtain⟨bM,l,rfl,aM,aE,bN,bO⟩:=(aw _ O.here).at_ aL;have af:=AU (aF l (zm aM));obtain⟨v,aj⟩:∃v:Nat,Ak l=(v:Int):=⟨(Ak l).toNat,Ad⟩;have aN:=zk aj;have aO:=zk (show 1<=v by omega);have aP:=zk (show v<=zb by omega);have bP:(j:Int)<(n:Int):=Ad;have bQ:(0:Int)<=(j:Int):=Ad;have T:=λW'(H:Ae wr W')=>H.cell (O.ae.cell 5);unfold Bc at T;dsimp only at T;rw[J.1,J.2.2]at T;clear O ab af aj;go_wp2;refine CA Dz (n:=6) AJ rfl rfl ?_;simp only[List.take_succ_cons,List.take_zero];have O:Ht Ae:=Dz;(repeat first|apply Gv O rfl (λW H=>Am) Am|apply AS rfl Am);apply Bu (λW H=>(BF l W).mono λe w' h=>⟨by rw[h.1,aN.out],by rw[h.2];exact Ae.refl _⟩) rfl (λW H=>by go_simp) Am;(repeat first|apply Gv O rfl (λW H=>Am) Am|apply AS rfl Am);refine AN λaQ H=>?_;have ak:=zk (ag.ext H);have U:=Mw aQ v 1 ak.hp aO aP Ad Ad;dsimp only at U;rw[J.2.2]at U;have aR:=zk U;clear H T U;go_wp2_with fail
       refine aR.mono ?_;rintro e bR⟨al,rfl,⟨am,an,ao,aq⟩,au⟩;have av:=ak.cD (rv':=am) (row':=al) (by dsimp only;rw[J.2.2];exact ao) (by dsimp only;rw[J.2.2];exact an) (by dsimp only;rw[J.2.2];exact aq);have aS:=zk av;have aT:=zk (au.trans ah);clear ao an aq au av;go_wp2;go_roundw;case rel=>exact⟨j+1,am,al,by go_num,Ad,aS,aT⟩
       case measure=>simp[intOf];omega
       obtain rfl:j=n:=Ad;clear O ab;go_wp2;go_ret;refine⟨rfl,{u with Y:=aB,bJ:=rv1},row1,J.1,?_,ah⟩;rw[aI.out];exact ag
    go_loopw[52](λi wr=>∃(j:Nat)(rv1:Aw)(row1:An),i=j/\j<=n/\BE P w0 wr {u with Y:=aB,bJ:=rv1} zb L {E with A:=Du E.A (E.id+1) zd b,W:=E.W.put E.A.size zd,id:=E.id+1,row:=row1} {X with aJ:=false} N bs/\row1.Perm E.row)(λi _=>n-(intOf i).toNat);case atStart=>exact⟨0,u.bJ,E.row,rfl,zx _,a9,abb _⟩
    case round=>
     obtain⟨j,rv1,row1,rfl,bL,O,ab⟩:=hrel;have ag:=zk O;have ah:=zk ab;by_cases aL:j<n;obtain⟨bM,l,rfl,aM,aE,bN,bO⟩:=(aw _ O.here).at_ aL;have af:=AU (aF l (zm aM));obtain⟨v,aj⟩:∃v:Nat,Ak l=(v:Int):=⟨(Ak l).toNat,Ad⟩;have aN:=zk aj;have aO:=zk (show 1<=v by omega);have aP:=zk (show v<=zb by omega);have bP:(j:Int)<(n:Int):=Ad;have bQ:(0:Int)<=(j:Int):=Ad;have T:=λW'(H:Ae wr W')=>H.cell (O.ae.cell 5);unfold Bc at T;dsimp only at T;rw[J.1,J.2.2]at T;clear O ab af aj;go_wp2;refine CA Dz (n:=6) AJ rfl rfl ?_;simp only[List.take_succ_cons,List.take_zero];have O:Ht Ae:=Dz;(repeat first|apply Gv O rfl (λW H=>Am) Am|apply AS rfl Am);apply Bu (λW H=>(BF l W).mono λe w' h=>⟨by rw[h.1,aN.out],by rw[h.2];exact Ae.refl _⟩) rfl (λW H=>by go_simp) Am;(repeat first|apply Gv O rfl (λW H=>Am) Am|apply AS rfl Am);refine AN λaQ H=>?_;have ak:=zk (ag.ext H);have U:=Mw aQ v 1 ak.hp aO aP Ad Ad;dsimp only at U;rw[J.2.2]at U;have aR:=zk U;clear H T U;go_wp2_with fail
     refine aR.mono ?_;rintro e bR⟨al,rfl,⟨am,an,ao,aq⟩,au⟩;have av:=ak.cD (rv':=am) (row':=al) (by dsimp only;rw[J.2.2];exact ao) (by dsimp only;rw[J.2.2];exact an) (by dsimp only;rw[J.2.2];exact aq);have aS:=zk av;have aT:=zk (au.trans ah);clear ao an aq au av;go_wp2;go_roundw;case rel=>exact⟨j+1,am,al,by go_num,Ad,aS,aT⟩
     case measure=>simp[intOf];omega
     obtain rfl:j=n:=Ad;clear O ab;go_wp2;go_ret;refine⟨rfl,{u with Y:=aB,bJ:=rv1},row1,J.1,?_,ah⟩;rw[aI.out];exact ag
def Wj(w:Aj)(e T ap U V:Nat)(Z:Aw)(S:Fb)(A:AD)(n c:Nat)(xs:An)(af:BL w T ap U Z V S)(aA:w.cell? ⟨e,3,none⟩=some (.pointer ap))(aa:AB w A n xs)(aB:n<=1000000):AC 150 #[.pointer e,.slice A n c] w (GX (xs.map (Bb S.rows)) w):=by
 have ag:∀W,(Instr.makeSlice 86 n n).run prog W=.ok (.slice W n n) (W.alloc (.cells (madeCells #[()] n) 3)):=λW=>by obtain⟨ah,hi,aj,ak,al⟩:=info_parts Jr;have:=Ci (P:=prog) 86 3 ah _ underlying86 hi aj .i64 .i64 n n (zs _) (by rw[al];omega) Ad W;rw[ak,abc]at this;exact this
 have ab:=aa.1;have J:=zk ab;have aC:(n:Int)<=1000000:=Ad;clear ab;go_enter func150,ntmps150;go_wp2;have am:Ae w (w.alloc (.cells (madeCells #[()] n) 3)):=by grind
 have an:Aq (w.alloc (.cells (madeCells #[()] n) 3)) w 3 (Cu (λi=>Bb S.rows (xs.getD i 0)) n 0):=by rw[<-IV λi=>Bb S.rows (xs.getD i 0)];exact Aq.new w _ _
 clear ag;go_loopw[19](λi wr=>∃k:Nat,i=k/\k<=n/\Ae w wr/\Aq wr w 3 (Cu (λi=>Bb S.rows (xs.getD i 0)) n k))(λi _=>n-(intOf i).toNat);case atStart=>exact⟨0,rfl,zx _,am,an⟩
 case round=>
  obtain⟨k,rfl,aD,u,E⟩:=hrel;by_cases ac:k<n;obtain⟨aE,x,rfl,ao,aF,aq,au⟩:=(aa.ext u).at_ ac;have av:=Nw wr T ap U Z V S x (af.ext u) ⟨aq,au⟩;have aG:=E.frozen k;have aH:wr.cell? ⟨w,k,none⟩=some ():=by rw[E.cell k];simp[Cu,ac]
  have O:xs.getD k 0=x:=by rw[yc,ao.out];rfl
  have ad:Au (λb=>b=w) wr (wr.setCell ⟨w,k,none⟩ (Bb S.rows x)):=(Au.refl (λb=>b=w) wr).setCell (p:=⟨w,k,none⟩) (.inl rfl) _;have aw:=(Au.ay u ad).ext (λb hb=>by rw[hb];exact zs _);have H:=E.ad k (Bb S.rows x);rw[<-O,IC (λi=>Bb S.rows (xs.getD i 0))]at H;rw[O]at H;have ax:=H;have aI:(k:Int)<(n:Int):=Ad;have aJ:(0:Int)<=(k:Int):=Ad;clear O ad H;go_wp2_with fail
  refine av.mono ?_;rintro e w2⟨rfl,rfl⟩;go_wp2;go_roundw;case rel=>exact⟨k+1,by go_num,Ad,aw,ax⟩
  case measure=>simp[intOf];omega
  obtain rfl:k=n:=Ad;skip;go_wp2;go_ret;have hb:=E;rw[IG]at hb;have ay:(List.range k).map (λi=>Bb S.rows (xs.getD i 0))=xs.map (Bb S.rows):=by
   apply List.ext_getElem;simp;exact J.symm;intro i aK az;have hi:i<xs.length:=by simpa using az
   simp[yc,zr hi]
  rw[ay]at hb;have ae:=Gr hb (by rw[z2];have:=J.out;omega);rw[z2,show xs.length=k from J]at ae;exact⟨_,rfl,ae,u⟩
def AdM(e:Nat)(w:Aj):Nat:=match w.cell? ⟨e,9,none⟩with|some (.int _ z)=>z.toNat|_=>0
def Wi{w:Aj}{e:Nat}{z:Int}(h:w.cell? ⟨e,9,none⟩=some (.int .i64 z)):AdM e w=z.toNat:=by unfold AdM;rw[h]
def Zz(P:Aj->Prop)(H:Aj)(zb:Nat)(L:AT)(Z:Cr)(E:Cv)(X:CW)(N:Dy)(J:An)(e:Bz)(w':Aj):Prop:=e=.returned (.tuple #[])/\∃(rv':Aw)(ze:An)(u:Int),BE P H w' {Z with bJ:=rv'} zb L {E with row:=ze} X {N with aa:=u} J/\ze.Perm E.row/\u<=1000000000
def AcC(P:Aj->Prop)(ac w:Aj)(Z:Cr)(zb:Nat)(L:AT)(E:Cv)(X:CW)(N:Dy)(ad:An)(A:AD)(n c:Nat)(xs:An)(ao:BE P ac w Z zb L E X N ad)(aT:∀W,P W->AB W A n xs)(ae:∀x∈xs,AV x zb=0)(bE:n<=1000000)(aq:N.aa<=1000000000):AC 151 #[.pointer Z.e,.slice A n c] w (Zz P ac zb L Z E X N ad):=by
 have aU:=zk ae;have au:=ao.bF;have bF:(n:Int)<=1000000:=Ad;clear ae;go_enter func151,ntmps151;go_wp2;go_loopw[8](λi wr=>∃(j:Nat)(rv1:Aw)(row1:An),i=j/\j<=n/\BE P ac wr {Z with bJ:=rv1} zb L {E with row:=row1} X N ad/\row1.Perm E.row)(λi _=>n-(intOf i).toNat);case atStart=>exact⟨0,Z.bJ,E.row,rfl,zx _,ao,abb _⟩
 case round=>
  obtain⟨j,rv1,row1,rfl,bG,u,O⟩:=hrel;have av:=zk u;have aw:=zk O;by_cases aV:j<n;obtain⟨bH,l,rfl,aW,bI,bJ,bK⟩:=(aT _ u.here).at_ aV;have ae:=AU (aU l (zm aW));obtain⟨v,ax⟩:∃v:Nat,Ak l=(v:Int):=⟨(Ak l).toNat,Ad⟩;have aX:=zk ax;have aY:=zk (show 1<=v by omega);have aZ:=zk (show v<=zb by omega);have bL:(j:Int)<(n:Int):=Ad;have bM:(0:Int)<=(j:Int):=Ad;have ak:=λW'(H:Ae wr W')=>H.cell (u.ae.cell 5);have T:=λW'(H:Ae wr W')=>H.cell (u.ae.cell 9);unfold Bc at ak T;dsimp only at ak T;clear u O ae ax;go_wp2;refine CA Dz (n:=10) AJ rfl rfl ?_;simp only[List.take_succ_cons,List.take_zero];have u:Ht Ae:=Dz;(repeat first|apply Gv u rfl (λW H=>Am) Am|apply AS rfl Am);apply Bu (λW H=>(BF l W).mono λe w' h=>⟨by rw[h.1,aX.out],by rw[h.2];exact Ae.refl _⟩) rfl (λW H=>by go_simp) Am;(repeat first|apply Gv u rfl (λW H=>Am) Am|apply AS rfl Am);refine AN λay H=>?_;have az:=zk (av.ext H);have a1:=zk (Mw ay v N.aa az.hp aY aZ au.1.2.1 (by have:=aq;omega));clear H ak T;go_wp2_with fail
  refine a1.mono ?_;rintro e aA⟨a5,rfl,⟨a6,aB,aC,aD⟩,ab⟩;have a7:=zk (az.cD aC aB aD);have a8:=zk (ab.trans aw);clear aC aB aD ab;go_wp2;go_roundw;case rel=>exact⟨j+1,a6,a5,by go_num,Ad,a7,a8⟩
  case measure=>simp[intOf];omega
  . obtain rfl:j=n:=Ad;have al:=λW'(H:Ae wr W')=>H.cell (u.ae.cell 8);have T:=λW'(H:Ae wr W')=>H.cell (u.ae.cell 9);unfold Bc at al T;dsimp only at al T;clear u O;go_wp2;refine CO (n:=17) AJ rfl rfl ?_;simp only[List.take_succ_cons,List.take_zero];(repeat first|apply Bg rfl (λW H=>Am) Am|apply AS rfl Am);refine AN λay H=>?_;have am:=zk (av.ext H);obtain⟨af,V⟩:∃z,IntKind.i64.wrap (N.aa+IntKind.i64.wrap ((IntKind.i64.wrap (N.aa*N.bQ)).tdiv 100))=z:=⟨_,rfl⟩;have aE:0<=af/\af<=4000000000:=by obtain⟨⟨⟨d0,d1⟩,aF,_⟩,_⟩:=au;have bN:=aq;have aG:0<=N.aa*N.bQ:=Int.mul_nonneg aF d0;have a9:N.aa*N.bQ<=N.aa*100:=abm d1 aF;generalize N.aa*N.bQ=m at aG a9 V;have ba:IntKind.i64.wrap m=m:=z5 _ Ad;rw[ba,abz aG]at V;have w2:IntKind.i64.wrap (m/100)=m/100:=z5 _ Ad;rw[w2]at V;have bc:IntKind.i64.wrap (N.aa+m/100)=N.aa+m/100:=z5 _ Ad;rw[bc]at V;omega
    rw[V];have aa:=am.ae.cell 9;have f9:=am.ae.frozen 9;unfold Bc at aa;dsimp only at aa f9;have bd:=zk (am.dX af aE);clear H al T V aE;go_wp2;go_loopw[](λwr=>∃(rv1:Aw)(row1:An)(be:Int),BE P ac wr {Z with bJ:=rv1} zb L {E with row:=row1} X {N with aa:=be} ad/\row1.Perm E.row)(λwr=>AdM Z.e wr);case atStart=>exact⟨rv1,row1,af,bd,aw⟩
    case round=>
     obtain⟨bf,bh,J,u,O⟩:=hrel;have aH:=zk u;have aI:=zk O;have aa:=u.ae.cell 9;have aJ:=u.ae.cell 5;unfold Bc at aa aJ;dsimp only at aa aJ;have bi:=zk (Wi aa);have ag:=u.bF.1.2;dsimp only at ag;by_cases U:1000000000<J
     . obtain⟨bO,bP,aK,aL,bj⟩:=u.hp;have bk:=zk (NJ wr aK aL);have bn:decide (1000000000<J)=true:=zt U;have br:decide (J>1000000000)=true:=zt U;have bt:=zk U;have aM:=zk ag;clear u O aK aL bj U ag;go_wp2_with fail
       refine bk.mono ?_;rintro e aA⟨bu,rfl,⟨bw,aN,aO,aP⟩,ab⟩;have ah:=aH.cD aO aN aP;have an:=ah.ae.cell 9;have bx:=ah.ae.frozen 9;unfold Bc at an;dsimp only at an bx;obtain⟨aj,aQ⟩:∃z,IntKind.i64.wrap (J.tdiv 2)=z:=⟨_,rfl⟩;have aR:aj=J/2:=by have aS:=aM.out;rw[abz aS.1,z5 _ Ad]at aQ;exact aQ.symm
       have bz:=zk aR;have bA:=zk (ah.dX aj (by have:=aM.out;omega));have bB:=zk (ab.trans aI);have bC:=zk (Wi (w:=aA.setCell ⟨Z.e,9,none⟩ aj) (World.cell?_setCell_same _ _ _ an));clear aN aO aP ab ah aR;go_wp2;go_roundw;case rel=>exact⟨bw,bu,aj,bA,bB⟩
       case measure=> rw[bC.out,bi.out,bz.out];have aS:=bt.out;omega
     . have bn:decide (1000000000<J)=false:=zn U;have br:decide (J>1000000000)=false:=zn U;have bD:=zk (show J<=1000000000 by omega);clear u O U ag;go_wp2;go_end0;exact⟨rfl,bf,bh,J,aH,aI.out,bD.out⟩
def AeX(p:Nat)(w:Aj):Nat:=match w.cell? ⟨p,1,none⟩with|some v=>Ve v|_=>0
def KN.lenOf{w:Aj}{p H J:Nat}{u:Aw}{zb:Nat}{ze:An}(h:KN w p H J u zb ze):AeX p w=ze.length:=by obtain⟨O,T,E,_⟩:=h;unfold Go.Proofs.YtdmempceikifeaaGreat.AeX;have:w.cell? ⟨p,1,none⟩=some u:=E.J.cell 1;rw[this];exact E.own.aL
def KN.aj{w:Aj}{p u E:Nat}{H:Aw}{zb:Nat}{ze:An}(h:KN w p u E H zb ze):ze.Nodup:=let⟨_,_,_,J,_⟩:=h;J.aj
def Xm{v zb:Nat}{t:Bool}(u:1<=v)(E:v<=zb)(H:zb<=900):AV (La (v:Int) t) zb=0/\Ak (La (v:Int) t)=v:=by
 unfold La;rw[zo Ad];cases t with
 |true=> rw[zq rfl];unfold AV Ak;rw[zo Ad,zq Ad,zo Ad,zq Ad];exact⟨rfl,rfl⟩
 |false=> rw[zo AG];unfold AV Ak;rw[zo Ad,zq Ad,zq Ad,zq Ad];exact⟨rfl,Ad⟩
def VI(P:Aj->Prop)(H:Aj)(zb:Nat)(L:AT)(Z:Cr)(E:Cv)(X:CW)(N:Dy)(e:Bz)(w':Aj):Prop:=e=.returned true/\∃(u:Cr)(ze:An)(J:An)(y:Int),u.e=Z.e/\BE P H w' u zb L {E with R:=E.R++[⟨y,E.d+1,-1⟩],d:=E.d+1,row:=ze} {X with calm:=false} N J/\CC L zb {E with R:=E.R++[⟨y,E.d+1,-1⟩],d:=E.d+1,row:=ze} {X with calm:=false}
def Zu(P:Aj->Prop)(aa w:Aj)(Z:Cr)(zb:Nat)(L:AT)(E:Cv)(X:CW)(N:Dy)(ab:An)(ac:BE P aa w Z zb L E X N ab)(U:CC L zb E X)(av:X.calm=true)(aK:X.aJ=false)(ba:X.conflict<0)(bc:∃v:Int,1<=v/\v<=zb/\∀r∈E.R,Ak r.lit≠v)(bd:E.d<=1000000):AC 92 #[.pointer Z.e] w (VI P aa zb L Z E X N):=by
 have ad:=ac.ae.cell 4;have aL:=ac.ae.cell 12;have aM:=ac.ae.cell 14;unfold Bc at ad aL aM;rw[aK]at aM;rw[av]at aL;have be:=Gc w Z.e Z.Y.q ad;have bf:=zk av;have aN:=ac.bb;clear av aK;go_enter func92,ntmps92;go_wp2_with fail
 refine be.mono ?_;rintro e bF⟨rfl,rfl⟩;go_wp2;go_loopw[](λwr=>∃(rv1:Aw)(row1:An),BE P aa wr {Z with bJ:=rv1} zb L {E with row:=row1} X N ab/\∀v,v∈E.row->(∃r∈E.R,Ak r.lit=v)\/v∈row1)(λwr=>AeX Z.hp wr);case atStart=>exact⟨Z.bJ,E.row,ac,λv H=>.inr H⟩
 case round=>
  obtain⟨rv1,row1,V,am⟩:=hrel;have aw:row1≠[]:=λe=>by
   obtain⟨v,J,ax,aO⟩:=bc;rcases am v (U.inv.free v J ax aO)with⟨r,O,ae⟩|aP
   . exact aO r O ae
   rw[e]at aP;cases aP
  have bh:0<row1.length:=List.length_pos_iff.2 aw;have bi:(0:Int)<(row1.length:Nat):=Ad;have ad:=V.ae.cell 5;unfold Bc at ad;dsimp only at ad;have bj:AC 164 #[.pointer Z.hp] wr λe w'=>e=.returned (.int .i64 (row1.length:Nat))/\wr=w':=by obtain⟨bG,bH,J,_⟩:=V.hp;exact WO wr J
  have bk:=Acz wr V.hp aw;have aQ:=zk V.hp.lenOf;have bn:=V.hp.eh;obtain⟨ln,ay⟩:∃ln:Nat,row1.length=ln:=⟨_,rfl⟩;have bI:=zk ay;have br:Hid (AC 164 #[.pointer Z.hp] wr λe w'=>e=.returned ln/\wr=w'):=by rw[<-ay];exact bj
  have bJ:(0:Int)<(ln:Int):=Ad;have bK:0<ln:=Ad;clear aw bh bi ay;go_wp2_with fail
  refine br.mono ?_;rintro e w2⟨rfl,rfl⟩;go_wp2_with fail
  refine bk.mono ?_;rintro e w2⟨v,rfl,aR,af,⟨az,aA,aS,aT⟩,aU,aB,aV⟩;have ag:=V.cD aS aA aT;have bt:=bn v aR;have aC:v<=zb:=Ad;obtain⟨aD,bu,_⟩:=ag.aI.at_ aC;have aW:=ag.ae.cell 6;have aX:=ag.ae.cell 0;unfold Bc at aW aX;dsimp only at aW aX bu;obtain⟨l,aY⟩:∃l,La (v:Int) aD=l:=⟨_,rfl⟩;have ah:=Xm (v:=v) (t:=aD) Ad aC aN.2;rw[aY]at ah;have aE:=Ahq (v:Int) aD w2;rw[aY]at aE;have bw:=aE;have aj:=zk ah;have bx:=FW w2 aa Z.al Z.au Z.aw Z.bv zb E.R ab l ag.ah.1 (by have:=AU ah.1;omega) (by have:=AU ah.1;omega);have aZ:(af.length<row1.length):=by have J:((v:Int)::af).Nodup:=xx.2 ⟨aU,aA.aj⟩;have:=Il J (b:=row1) (λx aF=>by rcases xl.1 aF with rfl|aF;exact aR;exact aV x aF);simp at this;omega
  have bL:(0:Int)<=(v:Int):=Ad;have bM:(v:Int)<(zb:Int)+1:=Ad;have bN:v<zb+1:=Ad;clear aA aS aT aU aV bt aC ah aE;go_wp2_with fail
  refine bw.mono ?_;rintro e a1⟨rfl,rfl⟩;go_wp2_with fail
  refine bx.mono ?_;rintro e a1⟨rfl,an⟩;have T:=ag.ext an;have a5:=T.ae.cell 12;have f12:=T.ae.frozen 12;unfold Bc at a5;dsimp only at a5 f12;rcases IR E.R l with H|H|H
  . have aG:(∃r∈E.R,Ak r.lit=(v:Int)):=by have:=(Kt U.inv.ah.aE).1 H;obtain⟨r,O,e⟩:=zw.1 this;exact⟨r,O,by rw[e];exact aj.2⟩
    rw[H];clear H an;go_wp2;go_roundw;case rel=>exact⟨az,af,T,λu ak=>by rcases am u ak with h|h;exact .inl h;rcases aB u h with rfl|h;exact .inl aG;exact .inr h⟩
    case measure=>rw[aQ.out,T.hp.lenOf];exact aZ
  . have aH:=T.c6 false;have aI:DW ⟨zb,E.R,E.d⟩:=U.inv.az;have ao:=aH.ah;have aq:Df ⟨zb,E.R,E.d⟩ l=0:=by
     unfold Df;have a6:=U.inv.ah.aE;rw[zo (by simpa using aj.1),zo (Hn.2 (λr O e=>?_))];have al:r.lit∈Az E.R:=zw.2 ⟨r,O,rfl⟩;rcases Ki (by have:=AU aj.1;omega) e with ae|ae
     . have:=(Kt a6).2 (ae▸al);omega
     . have:=(EH a6 (l:=l)).2 (ae▸al);omega
    have au:=YQ (a1.setCell ⟨Z.e,12,none⟩ false) aa Z.al Z.au Z.aw Z.bv ⟨zb,E.R,E.d⟩ zb ab l rfl ao.1 aI ao.2 (by have J:=D5 aI;have ax:=aN.2;show E.R.length<1000000000;omega) (by have J:(ab.length:Int)=E.d:=ao.2.1;have ax:=bd;omega);rw[aq]at au;have aJ:(Ji ⟨zb,E.R,E.d⟩ l).rows=E.R++[⟨l,E.d+1,-1⟩]/\(Ji ⟨zb,E.R,E.d⟩ l).depth=E.d+1:=by unfold Ji;rw[zq aq];exact⟨rfl,rfl⟩
    rw[aJ.1,aJ.2]at au;have a7:=aH.ae.cell 0;unfold Bc at a7;dsimp only at a7;have bz:=au;have bA:=zk aq;rw[H];clear H an aI ao aq au aJ;go_wp2_with fail
    refine bz.mono ?_;rintro e bO⟨rfl,bB,⟨bC,bD,al,a8,a9⟩,hb⟩;have bE:=aH.dB a8 al a9 hb;clear al a8 a9 hb;go_wp2;go_ret;refine⟨rfl,{Z with bJ:=az,aw:=bC,bv:=bD},af,bB,l,rfl,bE,U.cC bf bA (λu ak=>?_) ba⟩;rcases am u ak with h|h
    . exact .inr (.inl h)
    . rcases aB u h with rfl|h
      . exact .inl aj.2.symm
      . exact .inr (.inr h)
  . have aG:(∃r∈E.R,Ak r.lit=(v:Int)):=by have:=(EH U.inv.ah.aE (l:=l)).1 Ad;obtain⟨r,O,e⟩:=zw.1 this;refine⟨r,O,?_⟩;rw[e,<-aj.2];exact Bk l
    rw[H];clear H an;go_wp2;go_roundw;case rel=>exact⟨az,af,T,λu ak=>by rcases am u ak with h|h;exact .inl h;rcases aB u h with rfl|h;exact .inl aG;exact .inr h⟩
    case measure=>rw[aQ.out,T.hp.lenOf];exact aZ
def AiD(R:List AH)(v:Aw)(W:Aj):Prop:=∃A n c,v=.slice A n c/\AB W A n (Az R)
def Ahl(m:List Bool)(v:Aw)(W:Aj):Prop:=∃A n c,v=.slice A n c/\Bw W A n m
def XC(zb:Nat)(L:AT)(R:List AH)(w:Aj)(e:Bz)(w':Aj):Prop:=(R.length<zb/\e=.returned (.tuple #[AI,false])/\Ae w w')\/(R.length=zb/\∃A n c m,e=.returned (.tuple #[.slice A n c,true])/\Bw w' A n m/\m.length=zb/\Db L m<0/\Ae w w')
def Acg(P:Aj->Prop)(aj w:Aj)(Z:Cr)(zb:Nat)(L:AT)(E:Cv)(X:CW)(N:Dy)(ak:An)(H:BE P aj w Z zb L E X N ak)(O:CC L zb E X)(aq:X.calm=true)(au:X.aJ=false)(aE:X.conflict<0):AC 91 #[.pointer Z.e] w (XC zb L E.R w):=by
 have ac:=H.ae.cell 0;have ab:=H.ae.cell 1;have V:=H.ae.cell 2;have av:=H.ae.cell 4;have aF:=H.ae.cell 11;have aw:=H.ae.cell 14;unfold Bc at ac ab V av aF aw;rw[au]at aw;have aY:decide (X.conflict>=0)=false:=zn Ad;have aZ:decide (0<=X.conflict)=false:=zn Ad;have aG:=TE w aj Z.al Z.au Z.aw Z.bv zb E.R ak H.ah.1;have a1:E.R.length<=zb:=by have:=D5 O.inv.az;omega
 have aH:=Gc w Z.e Z.Y.q av;have aI:=zk aq;have ad:=H.bb;have aJ:(Bf w Z.dc Z.fn L):=let⟨_,_,J,_⟩:=H;J.cj.here
 clear aq au aE;go_enter func91,ntmps91;go_wp2_with fail
 refine aH.mono ?_;rintro e al⟨rfl,rfl⟩;go_wp2_with fail
 refine aG.mono ?_;rintro e al⟨rfl,T⟩;by_cases aK:E.R.length<zb;have aL:decide ((0:Int)<(zb:Int)-(E.R.length:Nat))=true:=zt Ad;have aM:decide ((zb:Int)-(E.R.length:Nat)>0)=true:=zt Ad;have a5:decide ((E.R.length:Int)<(zb:Int))=true:=zt Ad;have aN:(E.R.length:Int)<(zb:Int):=Ad;clear ac ab V;go_wp2;go_ret2;exact .inl ⟨aK,rfl,T⟩;have heq:E.R.length=zb:=Ad;have aL:decide ((0:Int)<(zb:Int)-(E.R.length:Nat))=false:=zn Ad;have aM:decide ((zb:Int)-(E.R.length:Nat)>0)=false:=zn Ad;have aN:¬(E.R.length:Int)<(zb:Int):=Ad;have ae:=zk heq;have aO:=λW'(u:Ae al W')=>u.cell (T.cell ac);have aP:=λW'(u:Ae al W')=>u.cell (T.cell ab);clear ac heq;go_wp2;refine Ct [(33,AiD E.R),(39,Ahl (JE (Az E.R) zb))] (n:=11) AJ rfl rfl (.cons (λ_ _ _⟨A,n,c,U,J⟩am=>⟨A,n,c,U,J.ext am⟩) (.cons (λ_ _ _⟨A,n,c,U,J⟩am=>⟨A,n,c,U,J.ext am⟩) .nil)) ?_;simp only[List.take_succ_cons,List.take_zero];(repeat apply Ep rfl rfl (λW u=>Am) Am);refine Di 33 _ (by rfl) rfl rfl (by rfl) (λW' σ u aa=>?_) Am ?_;simp only[AQ];refine .inr ⟨_,_,by go_simp,(EY W' aj Z.al Z.au Z.aw Z.bv zb E.R ak ((H.ext (T.trans u)).ah.1)).mono ?_⟩;rintro e w'⟨v,rfl,U,J⟩;obtain⟨A',n',c',rfl⟩:=U.form;exact⟨_,rfl,J,A',n',c',rfl,U.bZ (by have:=ae.out;have:=ad.2;rw[Cd];omega) (JA H.ah.1.ok)⟩;(repeat apply Ep rfl rfl (λW u=>Am) Am);refine Di 39 _ (by rfl) rfl rfl (by rfl) (λW' σ u aa=>?_) Am ?_;obtain⟨A',n',c',U,J⟩:=aa 33 _ rfl AJ;simp only[AQ,U];have aQ:n'=(Az E.R).length:=J.1.symm;rw[Cd]at aQ;refine .inr ⟨_,_,by go_simp,(AgC A' n' c' (Az E.R) zb W' J (by have:=ae.out;have:=ad.2;omega)).mono ?_⟩;rintro e w'⟨af,ag,V,rfl,aR,aS⟩;exact⟨_,rfl,aS,af,ag,V,rfl,aR⟩;(repeat apply Ep rfl rfl (λW u=>Am) Am);refine AN λW' σ u aa=>?_;obtain⟨af,ag,ax,ay,ah⟩:=aa 39 _ rfl;obtain⟨a6,a7,a8,az,_⟩:=aa 33 _ rfl;simp only[AQ,ay,az];have aA:JE (Az E.R) zb=ES (Az E.R) zb:=by unfold JE;rw[zo (by have:=ad.2;omega)];rfl
 rw[aA]at ah;have a9:=u.cell (T.cell ab);have ba:=u.cell (T.cell V);have an:=Aef (zb:Int) Z.dc Z.fn Z.c9 L af ag ax (ES (Az E.R) zb) W' (aJ.ext (T.trans u)) ah;have ao:Db L (ES (Az E.R) zb)<0:=Vh (by have:=ad.2;omega) O.inv.ah.aE (AdJ O.inv.ah.aj O.inv.az.lits (by have:=ae.out;omega)) (λc aB=>by obtain⟨r,aT,bc,_,rfl⟩:=O.inv.given c aB;exact⟨O.calm aI _ (P2 O.inv aB),(O.inv.cls r aT).2⟩);have aC:Kq (zb:Int) L (ES (Az E.R) zb)=true:=by unfold Kq;rw[IM,zt rfl,zt ao];rfl
 rw[aC]at an;have aU:=an;have aV:=ao;have aW:=ah;have aX:=T.trans u;clear u aa ay az aO aP aA an ao aC ah ab V;go_wp2_with fail
 refine aU.mono ?_;rintro e bd⟨rfl,aD⟩;skip;go_wp2;go_ret2;exact .inr ⟨ae,af,ag,ax,_,rfl,aW.ext aD,IM _ _,aV,aX.trans aD⟩
def Rh:LF 39 105 (.agg #[(),(),AI,AI]) 4 64:=⟨underlying39,AJ,rfl,Ax,Ax⟩
def C0.rowP{L:AT}{n:Int}{E:Cv}(h:C0 L n E){ze:An}{P:List Cz}(u:∀v,v∈E.row->v∈ze):C0 L n {E with row:=ze,P:=P}:=⟨h.az,h.ah,h.bX,h.aS,h.cls,h.len,h.af,h.aG,h.calm,h.bj,h.num,h.given,λv H J O=>u v (h.free v H J O)⟩
def T8(w:Aj)(u ap E:Nat)(H:Aw)(J:Nat)(S:Fb)(za p O:Nat)(lv T:Aw)(zb:Nat)(R:List AH)(U:An)(d:Int)(zd:An)(A:AD)(n c:Nat) (Z:BL w u ap E H J S)(aa:Bm w za p O lv T zb R U)(ab:Bq R (AY S.rows) d)(ac:R.length<=100000)(ad:∀r∈R,-1<=r.reason/\r.reason<=Bh)(V:AB w A n zd)(ae:∀x∈zd,∃(i:Nat)(r:AH),R[i]? =some r/\r.lit=-x)(af:zd.length<=100000):AC 148 #[.pointer ap,.pointer p,.slice A n c] w (GX (D9 R (AY S.rows) zd) w):=by
 cases zd with
 |nil=>exact UX w ap p A n c V
 |cons ag t=>exact AbU w u ap E H J S za p O lv T zb R U d ag t A n c Z aa ab ac ad V (λx ah=>ae x (yj _ ah)) (by simp at af;omega)
structure Tr(L:AT)(E:Cv)(x:Int)(zi full zd hints:An)(zb:Nat):Prop where
 full:∀y∈full,AV y zb=0
 short:MA E.R (AY E.A.rows) E.d zi zd
 told:Told L (E.P++[⟨1,E.id+1,zd,hints.map (Bb E.A.rows)⟩]) (E.A.rows++[⟨E.A.size,E.id+1,zd,true,true⟩]) (E.id+1)
 put:KE (E.id+1) zd
 dJ:∀y∈zd,AV y zb=0
 len:zd.length<=900
 dC:∀y∈hints,-9223372036854775808<=y/\y<=Bh
def M5{L:AT}{zb:Nat}{E:Cv}{X:CW}(H:CC L zb E X){x:Int}{zi full:An}(U:AY E.A.rows x=some zi)(V:∀y∈zi,-y∈Az E.R)(hF:US E.R (AY E.A.rows) E.d zi full):(∀y∈full,AV y zb=0)/\(∀y∈full,∃(i:Nat)(r:AH),E.R[i]? =some r/\r.lit=-y)/\MA E.R (AY E.A.rows) E.d zi (D9 E.R (AY E.A.rows) full):=by
 have Z:∀y∈zi,Ak y≠0:=λy u=>by have:=AU ((H.inv.ok x zi U).2 y u);omega
 have ac:=Jq H.inv.ah (zi:=zi) (λy u=>⟨Z y u,by obtain⟨i,r,J,O⟩:=C6 V y u;exact⟨i,r,J,O⟩⟩);have aa:∀y∈full,∃(i:Nat)(r:AH),E.R[i]? =some r/\r.lit=-y:=λy u=>by obtain⟨i,r,J,O,_⟩:=ac.bw y (hF.perm.mem_iff.1 u);exact⟨i,r,J,O⟩
 refine⟨λy u=>?_,aa,YR H.inv.ah H.inv.calm ⟨x,U⟩ Z V hF⟩;obtain⟨i,r,J,O⟩:=aa y u;have ab:=H.inv.az.lits r (zm J);rw[O]at ab;have T:AV (-y) zb=0:=ab;unfold AV at T⊢;split at T;cases T;rename_i g;rw[zo g];split at T;rename_i ad;rw[zq Ad];cases T
def Xl{L:AT}{zb:Nat}{E:Cv}{X:CW}(u:CC L zb E X){x:Int}{zi full:An}(J:AY E.A.rows x=some zi)(T:∀y∈zi,-y∈Az E.R)(hF:US E.R (AY E.A.rows) E.d zi full){M:Nat->Bool}(U:Jf E.R (AY E.A.rows) (D9 E.R (AY E.A.rows) full) M) (V:∀y∈zi,y∈D9 E.R (AY E.A.rows) full\/∃(j:Nat)(s:AH),M j=true/\E.R[j]? =some s/\s.lit=-y)(aa:zb<=900)(hid:0<=E.id/\E.id<1000000)(ab:0<=x/\x<=Bh):Tr L E x zi full (D9 E.R (AY E.A.rows) full) (FO E.R M x) zb:=by
 obtain⟨Z,ac,O⟩:=M5 u J T hF;obtain⟨t1,t2,t3,t4⟩:=U4 (n:=zb) u.told u.inv.aS u.inv.az u.inv.ah Ad Ad J O U V E.A.size;refine⟨Z,O,t1,?_,t4,t3,λy H=>?_⟩;exact⟨Ad,t2⟩;unfold FO at H;rcases zz.1 H with H|H;obtain⟨i,_,rfl⟩:=zw.1 H;cases e:E.R[i]? with
 |none=>dsimp only;omega
 |some r=> dsimp only;have:=u.inv.az.aY r (zm e);omega
 rw[zy.1 H];omega
def U5(P:Aj->Prop)(J:Aj)(zb:Nat)(L:AT)(Z:Cr)(E:Cv)(X:CW)(N:Dy)(e:Bz)(w':Aj):Prop:=e=.returned true/\∃(H:Cr)(u:Cv)(X':CW)(N':Dy)(O:An),H.e=Z.e/\BE P J w' H zb L u X' N' O/\CC L zb u X'/\X'.conflicts=X.conflicts+1/\u.P.length=E.P.length+1/\N'.aa<=1000000000/\N'.a7<=N.a7+1
def Abe(za:Nat)(xs:An)(v:Aw)(W:Aj):Prop:=∃A n c,v=.slice A n c/\Ay W za (.slice A n c) xs
def Abe.ext{za:Nat}{xs:An}{v:Aw}{W W':Aj}(h:Abe za xs v W)(u:Ae W W'):Abe za xs v W':=let⟨A,n,c,E,H⟩:=h;⟨A,n,c,E,H.ext u⟩
def Xy(za:Nat)(id:Int)(A:AD)(n c:Nat)(xs:An)(v:Aw)(W:Aj):Prop:=∃A' n' c',v=.agg #[AF,id,.slice A n c,.slice A' n' c']/\Ay W za (.slice A' n' c') xs
def Xy.ext{za:Nat}{id:Int}{A:AD}{n c:Nat}{xs:An}{v:Aw}{W W':Aj}(h:Xy za id A n c xs v W)(u:Ae W W'):Xy za id A n c xs v W':=let⟨A',n',c',E,H⟩:=h;⟨A',n',c',E,H.ext u⟩
def S8(wr:Aj)(v:Aw)(W:Aj):Prop:=∃g,v=.pointer (some ⟨g,0,none⟩)/\wr.heap.size<=g/\Aq W g 105 #[.int .i64 0,.int .i64 0,.slice none 0 0,.slice none 0 0]
def S8.ext{wr:Aj}{v:Aw}{W W':Aj}(h:S8 wr v W)(u:Ae W W'):S8 wr v W':=let⟨g,E,H,J⟩:=h;⟨g,E,H,J.ext u⟩
def Abb(R:List AH)(M:Nat->Bool)(x:Int):(FO R M x).length<=R.length+1:=by unfold FO EP;have:=yl M (List.range R.length);simp at this⊢;omega
def AhM{u:Ck}{a b c d x y z t:Aw}(h:∀j:Nat,u[j]? =if 0<=j/\j<0+(#[a,b,c,d]:Ck).size then(#[a,b,c,d]:Ck)[j-0]? else(#[x,y,z,t]:Ck)[j]?):u=#[a,b,c,d]:=by refine adx λj=>?_;rw[h j];split;rfl;rename_i g;rw[abs (by simp at g⊢;omega),abs (by simp at g⊢;omega)]
def Ae2(A:AD)(n c:Nat)(A':AD)(n' c':Nat)(id:Int)(v:Aw)(W:Aj):Prop:=∃B d,v=.slice B 1 d/\BA W B 1 4 [AF,id,.slice A n c,.slice A' n' c']
def Ae2.ext{A:AD}{n c:Nat}{A':AD}{n' c':Nat}{id:Int}{v:Aw}{W W':Aj}(h:Ae2 A n c A' n' c' id v W)(u:Ae W W'):Ae2 A n c A' n' c' id v W':=let⟨B,d,E,H⟩:=h;⟨B,d,E,H.ext u⟩
def Ajn(O u:World)(Z:Cr)(E:Cv)(A:Option Addr)(n c:Nat)(A':Option Addr)(n' c':Nat)(v:Value)(H:World):Prop:=∃W B m d J,v=.slice B m d/\Ae O W/\W.grownBy H Z.aV.ownBlock/\((Value.slice B m d).ownBlock=Z.aV.ownBlock\/(Value.slice B m d).ownBlock=some W.heap.size)/\AP W u 105 4 Z.aV E.P.length J/\AP H u 105 4 (.slice B m d) (E.P.length+1) (J++[.int .i64 1,.int .i64 (E.id+1),.slice A n c,.slice A' n' c'])
def BE.dZ{P:Aj->Prop}{u w:Aj}{Z:Cr}{zb:Nat}{L:AT}{E:Cv}{X:CW}{N:Dy}{H:An}(h:BE P u w Z zb L E X N H):∃A n c,Z.aV=.slice A n c:=let⟨_,_,J,_⟩:=h;let⟨_,O,_⟩:=J.aD id;O.form
def AP.uniq{w:Aj}{za size n:Nat}{e:TypeId}{v:Aw}{E H:List Aw}(h:AP w za e size v n E)(J:AP w za e size v n H):E=H:=by rcases h.2 with⟨rfl,rfl⟩|⟨g,zh,ab,rfl,_,V,_,_,_,Z⟩;have O:=h.1;have T:=J.1;simp at O T;rw[O,T];rcases J.2 with⟨u,_⟩|⟨ac,ad,ae,u,_,U,_,_,_,aa⟩;cases u;cases u;rw[V]at U;cases U;rw[<-Z,<-aa]
def LM{w:Aj}{za n c:Nat}{A:AD}{xs:An}(h:Ay w za (.slice A n c) xs):n<=c:=by
 cases xs with
 |nil=>have E:n=0:=h.aL;omega
 |cons x t=> obtain⟨g,zh,e,u⟩:=h.full AG;cases e;exact u
def CC.ez{L:AT}{n:Int}{E:Cv}{X:CW}(h:CC L n E X){ze:An}(u:∀v,v∈E.row->v∈ze):CC L n {E with row:=ze} X:=⟨h.inv.rowP u,h.told,h.cB,h.cm,h.aJ,h.eB,h.calm,h.c3,h.cW⟩
def BE.dq{P:Aj->Prop}{u w:Aj}{Z:Cr}{zb:Nat}{L:AT}{E:Cv}{X:CW}{N:Dy}{H:An}(h:BE P u w Z zb L E X N H):Jo w Z.aB N.a7:=let⟨_,_,J,_⟩:=h;J.aB id
def BE.ef{P:Aj->Prop}{H w:Aj}{Z:Cr}{zb:Nat}{L:AT}{E:Cv}{X:CW}{N:Dy}{J:An}(h:BE P H w Z zb L E X N J):∃u,AP w H 105 4 Z.aV E.P.length u/\u=u:=let⟨_,_,O,_⟩:=h;let⟨u,T,_⟩:=O.aD id;⟨u,T,rfl⟩
def VU(P:Aj->Prop)(V w:Aj)(Z:Cr)(zb:Nat)(L:AT)(E:Cv)(X:CW)(N:Dy)(al:An)(ak:BE P V w Z zb L E X N al)(O:CC L zb E X)(bG:X.aJ=false)(ct:0<=X.conflict)(dI:N.aa<=1000000000)(hid:E.id<199999)(dJ:X.conflicts<=1000000)(dK:E.P.length<=1000000000)(dL:N.a7<=1000000000):AC 88 #[.pointer Z.e] w (U5 P V zb L Z E X N):=by
 obtain⟨zi,ae,aQ⟩:=O.eB ct;have dM:=(Aeq ak O.inv X.conflict zi ae).1;have cu:=ak.bb;have cv:=ak.ah;have cx:(al.length:Int)=E.d:=cv.2.1;have a8:E.d<=900:=by have J:=Uf O.inv.bX;have T:=D5 O.inv.az;omega
 have cy:0<=E.id:=by have:=O.inv.len;omega
 have aR:E.R.length<=900:=by have:=D5 O.inv.az;omega
 have bH:∀y∈zi,Ak y≠0:=λy aa=>by have:=AU ((O.inv.ok X.conflict zi ae).2 y aa);omega
 have bI:=ak.ae.cell 4;have av:=ak.ae.cell 11;have bJ:=ak.ae.cell 14;have bK:=ak.ae.cell 0;have bL:=ak.ae.cell 3;unfold Bc at bI av bJ bK bL;rw[bG]at bJ;have eT:decide (X.conflict<0)=false:=zn Ad;have dN:=Gc w Z.e Z.Y.q bI;have eU:=zk bG;have a9:=zk ae;have bM:=zk cx;have ba:0<=E.id/\E.id<199999:=⟨cy,hid⟩;have cz:=show 0<=E.A.size/\E.A.size<=1003000000 by have J:=ak.aM.len;have T:=O.inv.aS.size;have aI:=ak.bb;omega
 have cA:E.A.rows.length<199999:=by have J:=O.inv.len;omega
 clear bG ct hid ae cv cx cy;go_enter func88,ntmps88;go_wp2_with fail
 refine dN.mono ?_;rintro e ah⟨rfl,rfl⟩;have U:=λW'(H:Ae w W')=>H.cell bK;have ax:=λW'(H:Ae w W')=>H.cell bL;have aS:=λW'(H:Ae w W')=>H.cell av;clear bI;go_wp2;clear bJ bK bL av;refine Ea [] (λv ah=>∃A n c full,v=.tuple #[.slice A n c,()]/\Ay ah w (.slice A n c) full/\US E.R (AY E.A.rows) E.d zi full/\Ae w ah) (n:=12) (m:=17) (dk:=41) AJ rfl rfl rfl rfl Hu.nil ?_;simp only[List.take_succ_cons,List.take_zero,xp,aai];(repeat apply Ep rfl rfl (λW H=>Am) Am);refine AN ⟨λW' σ af ab=>?_,λσ v ah ay=>?_⟩;simp only[AQ];have ac:=ak.ext af;have bN:=AaE W' V Z.ap Z.ao Z.a8 Z.aX E.A V Z.al Z.au Z.aw Z.bv zb E.R al X.conflict zi ac.aM ac.ah.1 (by rw[bM.out];exact O.inv.ah) a9 aQ bH (by have:=aR;omega) (λr aT=>(O.inv.az.aY r aT).2) (by have J:=bM.out;have T:=a8;omega);rw[bM.out]at bN;have dO:=bN;clear ab U ax aS ac bN;go_wp2_with fail
 refine dO.mono ?_;rintro e w2⟨v,full,rfl,am,aU,aV⟩;obtain⟨A,n,c,rfl⟩:=am.form;have aW:=am;clear am;go_wp2;exact Cp (.tuple #[.slice A n c,()]) rfl ⟨A,n,c,full,rfl,aW.bK af.size,aU,af.trans aV⟩;obtain⟨bc,aJ,cB,full,rfl,cC,aU,cD⟩:=ay;simp only[AQ];(repeat(first|(apply PU rfl (λW=>Am) Am)|(apply EC rfl Am)));refine Eg λaX bO=>?_;obtain⟨bd,cE,cF⟩:=M5 O a9 aQ aU;have cG:full.length<=900:=by have J:(full.map Ak).Nodup:=(aU.perm.map Ak).nodup_iff.2 (Jq O.inv.ah (λy aa=>⟨bH y aa,by obtain⟨i,r,J,T⟩:=C6 aQ y aa;exact⟨i,r,J,T⟩⟩)).vars;have T:=Il J (b:=(List.range zb).map λi=>((i+1:Nat):Int)) (λu az=>by obtain⟨y,aa,rfl⟩:=zw.1 az;have:=AU (bd y aa);exact zw.2 ⟨(Ak y-1).toNat,zv.2 Ad,Ad⟩);simp at T;have:=cu.2;omega
 have cH:∀y∈full,-9223372036854775808<=y/\y<=Bh:=λy aa=>by have:=AU (bd y aa);omega
 have bP:=cC.ext bO;have dP:=cD.trans bO;have aY:=ak.freeze (Q:=λW=>AB W bc aJ full) dP (λbe an=>Jw.own bP Ad cH (λb J _=>an b J));have eV:AB aX bc aJ full:=aY.here.2;have bf:=zk (And.intro bd (And.intro cE cF));have dQ:=show aJ<=1000000 by have J:aJ=full.length:=bP.aL;omega
 have U:=λW'(H:Ae aX W')=>H.cell (aY.ae.cell 0);have ax:=λW'(H:Ae aX W')=>H.cell (aY.ae.cell 3);unfold Bc at U ax;clear cC cD bO bd cE cF cH bP aS;go_wp2;refine Ea [] (λv ah=>∃A n c,v=.slice A n c/\Ay ah aX (.slice A n c) (D9 E.R (AY E.A.rows) full)/\Ae aX ah) (n:=9) (m:=10) (dk:=53) AJ rfl rfl rfl rfl Hu.nil ?_;simp only[List.take_succ_cons,List.take_zero,xp,aai];(repeat apply Ep rfl rfl (λW H=>Am) Am);refine AN ⟨λW' σ af ab=>?_,λσ v ah ay=>?_⟩;simp only[AQ];have ac:=aY.ext af;have ao:=T8 W' V Z.ap Z.ao Z.a8 Z.aX E.A V Z.al Z.au Z.aw Z.bv zb E.R al E.d full bc aJ cB ac.aM ac.ah.1 O.inv.ah (by have:=aR;omega) O.inv.az.aY ac.here.2 bf.2.1 (by have:=cG;omega);clear ab U ax ac;go_wp2_with fail
 refine ao.mono ?_;rintro e w2⟨v,rfl,am,aV⟩;obtain⟨A,n,c,rfl⟩:=am.form;have aW:=am;clear am;go_wp2;exact Cp (.slice A n c) rfl ⟨A,n,c,rfl,aW.bK af.size,af.trans aV⟩;obtain⟨aj,ag,cl,rfl,bQ,cI⟩:=ay;simp only[AQ];refine Eg λaZ bR=>?_;obtain⟨zd,aK⟩:∃zd,zd=D9 E.R (AY E.A.rows) full:=⟨_,rfl⟩;rw[<-aK]at bQ;have bh:=bQ.ext bR;have cJ:=cI.trans bR;have cK:∀y∈zd,y∈full:=λy aa=>by rw[aK]at aa;exact Lx.subset aa
 have cL:zd.length<=900:=by have J:=(Lx (R:=E.R) (cl:=AY E.A.rows) (zd:=full)).length_le;rw[<-aK]at J;have:=cG;omega
 have cM:∀y∈zd,-100000<=y/\y<=100000:=λy aa=>by have:=AU (bf.1 y (cK y aa));omega
 have a1:=aY.freeze (Q:=λW=>AB W aj ag zd) cJ (λbe an=>Jw.own bh Ad (λy aa=>by have:=cM y aa;omega) (λb J _=>an b J));have ao:MA E.R (AY E.A.rows) E.d zi zd:=by rw[aK];exact bf.2.2
 have cN:ag=zd.length:=bh.aL;have dR:=LM bh;have dS:=zk aK;have bi:=zk cN;have U:=λW'(H:Ae aZ W')=>H.cell (a1.ae.cell 0);have ax:=λW'(H:Ae aZ W')=>H.cell (a1.ae.cell 3);have aS:=λW'(H:Ae aZ W')=>H.cell (a1.ae.cell 11);unfold Bc at U ax aS;clear aK bQ bh cI bR cJ cK cN;go_wp2;refine Ea [] (λv ah=>∃A n c ad,v=.tuple #[.slice A n c,true]/\Ay ah aZ (.slice A n c) ad/\Tr L E X.conflict zi full zd ad zb/\ad.length<=901/\Ae aZ ah) (n:=13) (m:=18) (dk:=68) AJ rfl rfl rfl rfl Hu.nil ?_;simp only[List.take_succ_cons,List.take_zero,xp,aai];(repeat apply Ep rfl rfl (λW H=>Am) Am);refine AN ⟨λW' σ af ab=>?_,λσ v ah ay=>?_⟩;simp only[AQ];have ac:=a1.ext af;have cO:(0:Int)∉zi:=λdT=>bH 0 dT rfl;have cP:zd.Nodup:=Fi ao.vars;have dU:=Ab5 W' V Z.ap Z.ao Z.a8 Z.aX E.A V Z.al Z.au Z.aw Z.bv zb E.R al X.conflict zi zd aj ag cl E.d ac.aM ac.ah.1 O.inv.ah a9 aQ ao.cK ac.here.2 cM cP cO (by have:=aR;omega) O.inv.az.aY;clear ab U ax aS ac cO cP;go_wp2_with fail
 refine dU.mono ?_;rintro e w2⟨v,M,rfl,am,cQ,an,aV⟩;obtain⟨A,n,c,rfl⟩:=am.form;have aW:=am;have dV:=And.intro cQ an;clear am cQ an;go_wp2;refine Cp (.tuple #[.slice A n c,true]) rfl ⟨A,n,c,_,rfl,aW.bK af.size,?_,?_,af.trans aV⟩;have J:=dV;rw[dS.out]at J⊢;exact Xl O a9 aQ aU J.1 J.2 cu.2 (by have:=ba;omega) dM;have J:=Abb E.R M X.conflict;have:=aR;omega;obtain⟨cR,bj,dW,ad,rfl,cS,aq,dX,cT⟩:=ay;simp only[AQ];(repeat(first|(apply PU rfl (λW=>Am) Am)|(apply EC rfl Am)));refine Eg λwc bS=>?_;have bT:=cS.ext bS;have cU:=cT.trans bS;have bk:=a1.freeze (Q:=λW=>AB W cR bj ad) cU (λbe an=>Jw.own bT Ad aq.dC (λb J _=>an b J));have dY:bj=ad.length:=bT.aL;have dZ:=show bj<=1000000 by omega
 have U:=λW'(H:Ae wc W')=>H.cell (bk.ae.cell 0);have cV:=λW'(H:Ae wc W')=>H.cell (bk.ae.cell 10);unfold Bc at U cV;clear cS cT bS bT cU dY;go_wp2;refine Ct [(79,Abe wc (ad.map (Bb E.A.rows))),(80,Xy wc (E.id+1) aj ag cl (ad.map (Bb E.A.rows))),(8,S8 wc)] (n:=11) AJ rfl rfl ?_ ?_;exact .cons (λ_ _ _ h ae=>h.ext ae) (.cons (λ_ _ _ h ae=>h.ext ae) (.cons (λ_ _ _ h ae=>h.ext ae) .nil));simp only[List.take_succ_cons,List.take_zero];(repeat apply Ep rfl rfl (λW H=>Am) Am);refine Di 79 _ (by rfl) rfl rfl (by rfl) (λW' σ H ab=>?_) Am ?_;simp only[AQ];have ac:=bk.ext H;refine .inr ⟨_,_,by go_simp,(Wj W' Z.e V Z.ap Z.ao Z.aX Z.a8 E.A cR bj dW ad ac.aM (ac.ae.cell 3) ac.here.2 dZ).mono ?_⟩;rintro e w'⟨v,rfl,J,T⟩;obtain⟨A',n',c',rfl⟩:=J.form;exact⟨_,rfl,T,A',n',c',rfl,J.bK H.size⟩;refine Di 80 _ (by rfl) rfl rfl (by rfl) (λW' σ H ab=>?_) Am ?_;obtain⟨A',n',c',J,T⟩:=ab 79 _ rfl AJ;have ea:IntKind.i64.wrap (E.id+1)=E.id+1:=z5 _ (by have:=ba;omega);simp only[AQ,J,ea];exact .inl ⟨_,_,by go_simp,Ae.refl _,A',n',c',rfl,T⟩;refine Di 8 _ (by rfl) rfl rfl (by rfl) (λW' σ H ab=>?_) Am ?_;simp only[AQ];exact .inl ⟨_,_,by go_simp,by grind,_,rfl,H.size,Aq.new W' _ _⟩;refine AN λW' σ H ab=>?_;obtain⟨aA,aB,ci,J,T⟩:=ab 80 _ rfl;obtain⟨g,aI,a5,bU⟩:=ab 8 _ rfl;simp only[AQ,J,aI];refine KO rfl _ _ _ rfl g 0 (by go_simp) #[AF,.int .i64 (E.id+1),.slice aj ag cl,.slice aA aB ci] (by go_simp) 105 _ bU AG AJ (aa9.2 (by intro u az;simp at az;rcases az with rfl|rfl|rfl|rfl<;>rfl)) λaC eb hb bV ec cW=>?_;obtain rfl:eb=#[.int .i64 1,.int .i64 (E.id+1),.slice aj ag cl,.slice aA aB ci]:=AhM cW;have ed:Ae wc aC:=H.grown bV (λk e=>by cases e;exact a5);have cX:=T.stay ((Au.refl _ W').grown bV (λk e=>.inl e)) (λk bn aw=>by cases aw;exact T.ai bU Ax bn);have br:=hb;clear T H a5 bU ab U cV J aI hb bV ec cW;refine wpList_nil ?_;have a6:=bk.freeze (Q:=λW=>AB W aA aB (ad.map (Bb E.A.rows))) ed (λbe an=>Jw.own cX (by simp;have:=dX;omega) (λy aa=>by obtain⟨z,_,rfl⟩:=zw.1 aa;have:=Xb O.inv.aS z;omega) (λb J _=>an b J));have bW:=λW'(H:Ae aC W')=>H.cell (a6.ae.cell 15);have ee:=λW'(H:Ae aC W')=>H.cell (br.cell 0);have ef:=λW'(H:Ae aC W')=>H.cell (br.cell 1);have eg:=λW'(H:Ae aC W')=>H.cell (br.cell 2);have eh:=λW'(H:Ae aC W')=>H.cell (br.cell 3);unfold Bc at bW;go_wp2;obtain⟨eW,eX,eY,bX⟩:∃A n c,Z.aV=.slice A n c:=a6.dZ;have bt:=zk bX;rw[bX]at bW;clear bX;refine Pt [(87,Ae2 aj ag cl aA aB ci (E.id+1))] (Ajn aC V Z E aj ag cl aA aB ci) (λk=>k==0) (n:=7) (m:=10) (dk:=88) AJ rfl rfl rfl rfl (.cons (λ_ _ _ h ae=>h.ext ae) .nil) ?_;simp only[List.take_succ_cons,List.take_zero,xp,aai];(repeat(first|(apply AiU rfl rfl rfl (λW H=>Am) Am)|(apply Ky rfl rfl rfl (λW H=>Am) Am)));refine Ae3 87 _ (by rfl) rfl rfl (by rfl) (λW' σ H ab=>?_) Am ?_;simp only[AQ];refine .inl ⟨_,_,by go_simp,by grind,_,1,rfl,BA.bz W' #[AF,.int .i64 (E.id+1),.slice aj ag cl,.slice aA aB ci] 105⟩;refine AN ⟨λW' σ af ab=>?_,λσ v ah ay=>?_⟩;obtain⟨B,d,J,ei⟩:=ab 87 _ rfl;simp only[AQ,J];obtain⟨bY,bZ,_⟩:=(a6.ext af).ef;rw[bt.out]at bZ;have cY:=bZ;clear ab J bZ bW ee ef eg eh;go_wp2_with(at_builtin;refine D6 Rh _ rfl (.tmp 85) (.tmp 87) rfl V _ _ bY rfl cY _ _ _ _ rfl ei (by intro u az;simp at az;rcases az with rfl|rfl|rfl|rfl<;>rfl) (by have:=dK;omega) (by have:=af.size;have:=a6.1.size;omega) ?_;intro v4 eZ b0 ej cZ;obtain⟨aD,aE,d4,rfl⟩:=b0.form;have ek:=b0;have el:=cZ;clear b0 cZ)
 refine Cp (.slice aD aE d4) rfl ⟨W',aD,aE,d4,bY,rfl,af,?_,?_,?_,ek⟩;rw[bt.out];exact ej;rw[bt.out];exact el;rw[bt.out];exact cY;obtain⟨c0,aD,aE,d4,bY,rfl,c9,aF,da,dc,dd⟩:=ay;simp only[AQ];(repeat(first|(apply PU rfl (λW=>Am) Am)|(apply EC rfl Am)));refine Eg λde b1=>?_;obtain⟨bn,be,aw,b2⟩:=a6.ext c9;obtain⟨e0,df,dg⟩:=aw.aD id;obtain rfl:=dc.uniq df;have aL:Au (λ_=>False) ah de:=b1.stay;have b3:c0.grownBy de Z.aV.ownBlock:=⟨aL.os.trans aF.os,aL.tape.trans aF.tape,aL.output.trans aF.output,z7 aF.size aL.size,λk dh bu=>(aL.block k (x6 dh aF.size) (λf=>f)).trans (aF.block k dh bu)⟩;have bu:Z.aV.ownBlock≠some Z.e:=λe=>by have J:=aw.bI _ e;have T:=aw.aK;rw[T]at J;cases J
 have b4:=((Au.refl (λb=>Z.aV.ownBlock=some b) c0).grown b3 (λk e=>.inl e)).J (aw.ae id) bu;have bw:=BE.dM (z:=⟨1,E.id+1,zd,ad.map (Bb E.A.rows)⟩) (A:=aj) (n:=ag) (c:=cl) (A':=aA) (n':=aB) (c':=ci) (pv':=.slice aD aE d4) bn aw b2 dg (b2.imp λW h=>⟨h.1.1.2,h.2⟩) dR (LM cX) b3 (dd.ext b1) (by rcases da with g|g;exact .inl g;exact .inr λk e=>by rw[g]at e;cases e;exact zs _);have em:=b4.cell 15;have d13:=bw.ae.cell 13;have f15:=b4.frozen 15;have f13:=bw.ae.frozen 13;unfold Bc at em d13;have e1:IntKind.i64.wrap (X.conflicts+1)=X.conflicts+1:=z5 _ (by have J:=dJ;have T:=O.cm;omega);have eo:=bw.eo (X.conflicts+1);clear bn aw b2 df dg aL b3 bu b4 bw aF da dc dd c9 b1;have ep:=AcC _ V _ {Z with aV:=.slice aD aE d4} zb L {E with P:=E.P++[⟨1,E.id+1,zd,ad.map (Bb E.A.rows)⟩]} {X with conflicts:=X.conflicts+1} N al bc aJ cB full eo (λW h=>h.1.1.1.2) bf.1 dQ dI;skip;go_wp2_with fail
 refine ep.mono ?_;rintro e b5⟨rfl,di,b6,b7,bx,bz,dj⟩;have dl:∀x∈zd,0<=AR E.R (Ak x)/\AR E.R (Ak x)<=1000000:=λx ae=>by obtain⟨i,r,J,T⟩:=C6 ao.bw x ae;have aI:=(Dx O.inv.ah.aj J).1;rw[T,Bk]at aI;have a5:=O.inv.ah.low r (zm J);have:=a8;omega
 have eq:=Adp b5 V Z.al Z.au Z.aw Z.bv zb E.R al aj ag cl zd bx.ah.1 (λr aT=>by have a5:=O.inv.ah.low r aT;have:=a8;omega) bx.here.1.1.2 (by have:=bi.out;have:=cL;omega);have U:=λW'(H:Ae b5 W')=>H.cell (bx.ae.cell 0);unfold Bc at U;have er:=U b5 (Ae.refl _);skip;go_wp2_with fail
 refine eq.mono ?_;rintro e dm⟨dn,rfl,dp,dq,b8⟩;have b9:=bx.ext b8;have es:=Aaq dm V Z.al Z.au Z.aw Z.bv zb E.R al aj ag cl zd b9.ah.1 b9.here.1.1.2 (λx ae=>by have J:=(EH O.inv.ah.aE (l:=x)).2 (ao.bw x ae);rcases IR E.R x with T|T|T<;>omega) dl (by have:=bi.out;have:=cL;omega);have et:=U dm b8;have eu:=And.intro dp dq;clear b8 dp dq U er;go_wp2_with fail
 refine es.mono ?_;rintro e e2⟨rfl,dr⟩;have aM:=b9.ext dr;clear dr et;rcases ds:zd with _|⟨y,rest⟩;focus
  subst ds;have ev:ag=0:=bi.out;subst ev;have aG:=(aM.cz (-1)).c6 false;have av:=aM.ae.cell 11;have f11:=aM.ae.frozen 11;have bA:=(aM.cz (-1)).ae.cell 12;have f12:=(aM.cz (-1)).ae.frozen 12;unfold Bc at av bA;have cc:=Rp _ V _ {Z with aV:=.slice aD aE d4,bJ:=di} zb L {E with P:=E.P++[⟨1,E.id+1,[],ad.map (Bb E.A.rows)⟩],row:=b6} {X with conflicts:=X.conflicts+1,conflict:=-1,calm:=false} {N with aa:=b7} al [] true aj 0 cl aG (λW h=>h.1.1.2) (O.inv.rowP (λv aH=>bz.mem_iff.2 aH)) aq.put aq.dJ (by have:=ba;exact⟨this.1,by have T:=this.2;dsimp only;omega⟩) (by have:=cA;dsimp only;omega);clear aG;go_wp2_with fail
  refine cc.mono ?_;rintro e ce⟨rfl,au,cf,aN,aO,bB⟩
 rotate_left;focus
  subst ds;have dt:1<=E.d:=by by_cases J:1<=E.d;exact J;have T:=ao.zero (by have:=O.inv.az.d0;dsimp only at this;omega);cases T
  obtain⟨e3,e4,ew,a7,cg⟩:=ao.head dt;cases ew;have du:=UQ a7 cg;have ch:0<=CV E.R (y::rest)/\CV E.R (y::rest)<=E.d:=by rcases du with⟨J,_⟩|⟨z,J,T,_⟩;omega;have aI:=dl z (yj _ J);have a5:=cg z J;omega
  have ey:0<ag:=by have:=bi.out;simp at this;omega
  have ez:=TS _ V _ {Z with aV:=.slice aD aE d4,bJ:=di} zb L {E with P:=E.P++[⟨1,E.id+1,y::rest,ad.map (Bb E.A.rows)⟩],row:=b6} {X with conflicts:=X.conflicts+1} {N with aa:=b7} al (CV E.R (y::rest)) aM O.inv.az ch (by have:=a8;dsimp only;omega);clear a7 cg;go_wp2_with fail
  refine ez.mono ?_;rintro e e5⟨rfl,eA,e6,cj,bC,aP,dv,dw⟩;have aG:=(aP.cz (-1)).c6 false;have av:=aP.ae.cell 11;have f11:=aP.ae.frozen 11;have bA:=(aP.cz (-1)).ae.cell 12;have f12:=(aP.cz (-1)).ae.frozen 12;rw[bC]at av f11 bA f12 aG;unfold Bc at av bA;have dx:=(O.inv.rowP (ze:=b6) (P:=E.P++[⟨1,E.id+1,y::rest,ad.map (Bb E.A.rows)⟩]) (λv aH=>bz.mem_iff.2 aH)).back ch.1 ch.2 dv dw;rw[<-bC]at aG;have cm:=Rp _ V _ eA zb L _ _ {N with aa:=b7} cj (y::rest) true aj ag cl aG (λW h=>h.1.1.2) dx aq.put aq.dJ (by have:=ba;exact⟨this.1,by have T:=this.2;dsimp only;omega⟩) (by have:=cA;dsimp only;omega);rw[bC]at cm;have cc:=cm;clear aG cm dx aP;go_wp2_with fail
  refine cc.mono ?_;rintro e ce⟨rfl,au,cf,aN,aO,bB⟩;rw[bC]at aN
 all_goals
  have dy:=aO.ae.cell 16;rw[aN]at dy;unfold Bc at dy;obtain⟨bD,eB,eC,dz,dA⟩:=aO.dq;have cn:=And.intro dz dA;clear dz dA;go_wp2_with(at_mapUpdate;refine Lt Hz _ rfl _ _ _ rfl au.aB bD eB rfl eC (by have J:bD.length<=N.a7:=cn.2;have T:=dL;omega) E.A.size dn rfl rfl (by have:=cz;unfold Bj;omega) ?_;intro bE eD eE;skip)
  have co:Au (λb=>b=au.aB) ce bE:=(Au.refl _ ce).grown eE (λk e=>.inl (by cases e;rfl));have cp:Jo bE au.aB (N.a7+1):=⟨_,_,eD,λx=>by by_cases e:x=E.A.size;exact .inr ⟨dn,by rw[zq e],eu⟩;rw[zo e];exact cn.1 x,by have J:=KX bD E.A.size;have T:bD.length<=N.a7:=cn.2;omega⟩
 have bF:=aO.dv (gn':=N.a7+1) co cp;have U:=λW'(H:Ae bE W')=>H.cell (bF.ae.cell 0);rw[aN]at U;unfold Bc at U;obtain⟨cq,eF,dB⟩:=bF.here.1.1.2.2.2.2 ey;have dC:=λW'(H:Ae bE W')=>H.cell (dB 0 _ rfl);have eG:cq.add 0=cq:=by cases cq;unfold Addr.add;split<;>simp_all
 have a7:=dC;rw[eG]at a7;subst eF;clear dB co cp;refine CA Dz (n:=8) AJ rfl rfl ?_;simp only[List.take_succ_cons,List.take_zero];have eH:Ht Ae:=Dz;(repeat first|apply Gv eH rfl (λW H=>Am) Am|apply AS rfl Am);refine AN λeI H=>?_;have dD:=bF.ext H;obtain⟨eJ,eK,cr,eL⟩:=O.resolve (k:=CV E.R (y::rest)) (ze:=cf) (s:=⟨1,E.id+1,y::rest,ad.map (Bb E.A.rows)⟩) dt ao du (λv aH=>bB.mem_iff.2 (dv v (bz.mem_iff.2 aH))) (λr aT=>bB.mem_iff.2 (dw r aT)) rfl aq.told aq.put aq.dJ bF.aM.inv (by have:=cz;omega);obtain⟨t1,t2⟩:=dD.ah;have eM:(Bp E.R (CV E.R (y::rest))).length<=E.R.length:=by unfold Bp;exact yl _ _
 have cs:=Sj eI V au.al au.au au.aw au.bv ⟨zb,Bp E.R (CV E.R (y::rest)),CV E.R (y::rest)⟩ zb cj y E.A.size rfl t1 t2 (by have:=aR;dsimp only;omega);have hit:Hw ⟨zb,Bp E.R (CV E.R (y::rest)),CV E.R (y::rest)⟩ y E.A.size=⟨zb,Bp E.R (CV E.R (y::rest))++[⟨y,CV E.R (y::rest),E.A.size⟩],CV E.R (y::rest)⟩:=by unfold Hw;rw[zq cr]
 rw[cr,hit]at cs;have eN:=cs;clear cs t1 t2 eM hit cr U dC a7 H eJ eK;go_wp2_with fail
 refine eN.mono ?_;rintro e e7⟨rfl,⟨eO,eP,dE,dF,dG⟩,dH⟩;have eQ:=dD.dB dF dE dG dH;clear dE dF dG dH;go_wp2;refine yw (v:=true) (by simp[results,results88,go_sem]) rfl ?_;refine⟨rfl,{au with aw:=eO,bv:=eP},_,_,_,cj,aN,eQ.cH (λW h=>h.1.1.1.1),?_,rfl,?_,dj,by exact zs _⟩;have e:(X.aJ||decide ((y::rest).length=0))=X.aJ:=AG;show CC L zb _ {X with conflict:=-1,calm:=false,conflicts:=X.conflicts+1,aJ:=(X.aJ||decide ((y::rest).length=0))};rw[e];exact eL;show(E.P++[_]).length=_;simp;have eR:E.d=0:=by by_cases J:1<=E.d;obtain⟨y,rest,T,_⟩:=ao.head J;cases T;have:=O.inv.az.d0;dsimp only at this;omega
 have eS:=(O.ez (ze:=cf) (λv aH=>bB.mem_iff.2 (bz.mem_iff.2 aH))).el eR (s:=⟨1,E.id+1,[],ad.map (Bb E.A.rows)⟩) rfl rfl aq.told aq.put aO.aM.inv;refine yw (v:=true) (by simp[results,results88,go_sem]) rfl ?_;refine⟨rfl,au,_,_,_,al,aN,(aO.dv (gn':=N.a7+1) co cp).cH (λW h=>h.1.1.1.1),?_,rfl,?_,dj,by exact zs _⟩;have e:(X.aJ||decide (([]:An).length=0))=true:=AG;show CC L zb _ {X with conflict:=-1,calm:=false,conflicts:=X.conflicts+1,aJ:=(X.aJ||decide (([]:An).length=0))};rw[e];exact eS;show(E.P++[_]).length=_;simp
def XH(R:List AH)(zc:List Cf)(w:Aj)(e:Bz)(w':Aj):Prop:=∃(A:AD)(n c:Nat)(u:List BI),e=.returned (.slice A n c)/\D8 w' w (.slice A n c) u/\Ae w w'/\u.map (λg=>(g.aP,g.bD))=((Fe zc).filter (CU zc)).map λx=>(x,D7 R x (BY zc x))
def Afa(g:BI)(v:Aw)(W:Aj):Prop:=∃B d,v=.slice B 1 d/\BA W B 1 4 (DR g)
def Afa.ext{g:BI}{v:Aw}{W W':Aj}(h:Afa g v W)(u:Ae W W'):Afa g v W':=let⟨B,d,E,H⟩:=h;⟨B,d,E,H.ext u⟩
def Ajo(u:Aj)(E:List BI)(v:Aw)(w':Aj):Prop:=∃B m d,v=.slice B m d/\D8 w' u (.slice B m d) E/\Ae u w'
def VC{u:Type}(p:u->Bool){xs:List u}{k:Nat}{x:u}(h:xs[k]? =some x):(xs.take (k+1)).filter p=(xs.take k).filter p++if p x then[x]else[]:=by rw[AM h,y5];congr 1;cases E:p x<;>simp[E]
def Xp(P:Aj->Prop)(ad w:Aj)(Z:Cr)(zb:Nat)(L:AT)(E:Cv)(X:CW)(N:Dy)(aG:An)(H:BE P ad w Z zb L E X N aG):AC 157 #[.pointer Z.e] w (XH E.R E.A.rows w):=by
 have aZ:=H.bb.1.2;have af:=H.aM;have a1:=AfA w ad Z.ap Z.ao Z.a8 Z.aX E.A af;have a5:=WW af.inv af.len;have a6:=MP E.A.rows;have an:=λW'(u:Ae w W')=>u.cell (H.ae.cell 0);have ag:=λW'(u:Ae w W')=>u.cell (H.ae.cell 3);have ao:=λW'(u:Ae w W')=>u.cell (H.ae.cell 16);unfold Bc at an ag ao;obtain⟨bI,a7,a8,a9,ba⟩:=H.dq;have aH:=show(Fe E.A.rows).length<=200000 by omega
 have aq:=ag w (Ae.refl w);clear af a6 aZ ba;go_enter func157,ntmps157;go_wp2_with fail
 refine a1.mono ?_;rintro e ah⟨v,rfl,aj,au⟩;obtain⟨bJ,V,bK,rfl⟩:=aj.form;have aI:V=(Fe E.A.rows).length:=aj.aL;have bc:=aj.bZ (by have:=aH;omega) a5;have bL:V<=200000:=by have:=aH;omega
 have bd:=zk aI;clear aj aI aq;go_wp2;go_loopw[3,13](λv i wr=>∃(j:Nat)(J:List BI)(A:AD)(n c:Nat),v=.slice A n c/\i=j/\j<=V/\Ae ah wr/\D8 wr ah (.slice A n c) J/\J.length<=j/\J.map (λg=>(g.aP,g.bD))=(((Fe E.A.rows).take j).filter (CU E.A.rows)).map λx=>(x,D7 E.R x (BY E.A.rows x)))(λ_ i _=>V-(intOf i).toNat);case atStart=>exact⟨0,[],none,0,0,rfl,rfl,zx _,Ae.refl _,AP.nil _ _ _ _,zs _,rfl⟩
 case round=>
  obtain⟨j,J,aJ,aK,aL,rfl,rfl,bM,ae,av,aw,ax⟩:=hrel;have ay:=zk ax;by_cases be:j<V;obtain⟨bN,x,rfl,bf,aM,az,aA⟩:=(bc.ext ae).at_ be;have O:Ae w wr:=au.trans ae;have aN:=H.ext O;have bh:=XP wr ad Z.ap Z.ao Z.a8 Z.aX E.A x aN.aM ⟨az,aA⟩;have aO:=And.intro az aA;have aP:=VC (CU E.A.rows) bf.out;have aQ:=zk aP;have aq:=ag wr O;have bO:(j:Int)<(V:Int):=Ad;have bP:(0:Int)<=(j:Int):=Ad;clear ax aN aP az aA;go_wp2_with fail
  refine bh.mono ?_;rintro e w2⟨rfl,rfl⟩;by_cases aa:CU E.A.rows x=true
  . have bi:=I9 wr ad Z.ap Z.ao Z.a8 Z.aX E.A x (H.ext O).aM aO;have aB:=zk aa;rw[aa];clear aa aM;go_wp2_with fail
    refine bi.mono ?_;rintro e aC⟨bQ,rfl,ak,T⟩;obtain⟨bj,ab,cl,rfl⟩:=ak.form;have aR:ab=(BY E.A.rows x).length:=ak.aL;have aS:=(Im H.aM.inv x).2;have bk:=(H.ext O).ext T;have bn:=ak.bZ Ad (λz aD=>by have:=(Im H.aM.inv x).1 z aD;omega);obtain⟨y,aT,aU⟩:∃y:Int,(a7 x).getD ()=y/\0<=y/\y<=2000001:=by rcases a9 x with e|⟨z,e,aD⟩;exact⟨0,by rw[e];rfl,Ad,Ad⟩;exact⟨z,by rw[e];rfl,aD⟩
    have br:∀W,Ae aC W->(Instr.lookup 174 (.map (some Z.aB)) x false).run prog W=.ok y W:=λW u=>by rw[<-aT];exact(a8.ext ((O.trans T).trans u)).look Hz aO
    have bt:=λW'(u:Ae aC W')=>an W' ((O.trans T).trans u);have bu:=λW'(u:Ae aC W')=>ao W' ((O.trans T).trans u);have bw:=av.ext T;have bx:=ae.trans T;have bR:=zk aR;have bS:=zk aS;have bT:=zk aU;have bU:=zk (O.trans T).size;clear T ak aR aS aT aU aq an ao ag;go_wp2_with fail
    refine Ea [(47,Afa ⟨x,y,ab,D7 E.R x (BY E.A.rows x)⟩)] (Ajo ah (J++[(⟨x,y,(ab:Int),D7 E.R x (BY E.A.rows x)⟩:BI)])) (n:=19) (m:=20) (dk:=48) AJ rfl rfl rfl rfl (.cons (λ_ _ _ h bz=>h.ext bz) .nil) ?_;simp only[List.take_succ_cons,List.take_zero,xp,aai];(repeat apply Ep rfl rfl (λW u=>Am) Am);apply KT rfl (λW u=>Aeu W ad Z.al Z.au Z.aw Z.bv zb E.R aG x bj ab cl (BY E.A.rows x) (bk.ext u).ah.1 (bn.ext u)) rfl (λW u=>by go_simp) Am;(repeat apply Ep rfl rfl (λW u=>Am) Am);refine Di 47 _ (by rfl) rfl rfl (by rfl) (λW' σ u aE=>?_) Am ?_;simp only[AQ];exact .inl ⟨_,_,by go_simp,by grind,_,1,rfl,BA.bz W' #[x,y,.int .i64 (ab:Nat),.bool (D7 E.R x (BY E.A.rows x))] 320⟩;refine AN ⟨λW' σ u aE=>?_,λσ v bV bA=>?_⟩;obtain⟨B,d,U,bB⟩:=aE 47 _ rfl;simp only[AQ,U];have aV:=bx.trans u;have aW:=bw.ext u;clear u aE U bt bu br;go_wp2_with(at_builtin;refine D6 Ahj _ rfl (.tmp 29) (.tmp 47) rfl ah _ _ (J.flatMap DR) rfl aW _ _ _ _ rfl bB (NR _) (by have:=aw;omega) aV.size ?_;intro v4 bW ac aX bC;obtain⟨al,am,d4,rfl⟩:=ac.form;have bD:=ac;have bE:=Ae.grown aV aX (λk e=>(aW.J k e).1);clear ac aX bC)
    refine Cp (.slice al am d4) rfl ⟨al,am,d4,rfl,?_,bE⟩;have:=bD;unfold D8;rw[y4,zu];simpa using this;obtain⟨al,am,d4,rfl,ac,aY⟩:=bA;simp only[AQ];(repeat(first|(apply PU rfl (λW=>Am) Am)|(apply EC rfl Am)));refine Eg λbX aF=>?_;have bF:=AP.ext ac aF;have bG:=aY.trans aF;clear ac aY aF;go_wp2;go_roundw;case rel=> refine⟨j+1,J++[(⟨x,y,(ab:Int),D7 E.R x (BY E.A.rows x)⟩:BI)],al,am,d4,rfl,by go_num,Ad,bG,bF,by have:=aw;simp;omega,?_⟩;have U:=aQ.out;rw[aB.out,zq rfl]at U;rw[U,yo,yo,ay.out];rfl
    case measure=>simp[intOf];omega
  have aB:=zk aa;rw[Bool.eq_false_iff.2 aa];clear aa aM;go_wp2;go_roundw;case rel=> refine⟨j+1,J,aJ,aK,aL,rfl,by go_num,Ad,ae,av,by have:=aw;omega,?_⟩;have U:=aQ.out;rw[zo aB,yg]at U;rw[U];exact ay
  case measure=>simp[intOf];omega
  have bH:j=V:=Ad;subst bH;clear ax;go_wp2;go_ret;refine⟨aJ,aK,aL,J,rfl,AP.less av au.size,au.trans ae,?_⟩;have:=ay.out;rw[bd.out,x0]at this;exact this
def SR{u E:Type}{f:u->E}(l:List u):(l.map λx=>(x,f x)).map Prod.fst=l:=by rw[ac5];exact List.map_id _
def Xu{S:Fb}(h:CG S):(Fe S.rows).Nodup:=by
 unfold Fe;have E:(S.rows.map Cf.pos).Nodup:=by refine xo.2 λi j hi u H=>?_;rw[z2]at hi u;rw[ade,ade];have J:=h.pos i _ (zr hi);have O:=h.pos j _ (zr u);have:=TU (zr hi) H;omega
 exact E.sublist (xw.map _)
def Agv{S:Fb}(H:CG S){R:List AH}{J E:List BI}{out:An}{m:Nat}(U:J.map (λg=>(g.aP,g.bD))=((Fe S.rows).filter (CU S.rows)).map λx=>(x,D7 R x (BY S.rows x))) (V:E.Perm (J.filter λr=>!Cn r))(Z:out.Perm ((E.take m).map BI.aP)):out.Nodup/\∀x∈out,CU S.rows x=true/\AY S.rows x=some (BY S.rows x)/\D7 R x (BY S.rows x)=false:=by
 have ad:J.map BI.aP=(Fe S.rows).filter (CU S.rows):=by have:=aby (List.map Prod.fst) U;rw[SR,ac5]at this;exact this
 have ae:((E.take m).map BI.aP).Nodup:=by refine List.Nodup.sublist ((ab3 m E).map _) ?_;rw[(V.map BI.aP).nodup_iff];refine List.Nodup.sublist (xw.map _) ?_;rw[ad];exact(Xu H).sublist xw
 refine⟨Z.nodup_iff.2 ae,λx af=>?_⟩;obtain⟨g,ag,rfl⟩:=zw.1 (Z.mem_iff.1 af);have O:=V.mem_iff.1 (xh ag);rw[ye]at O;have ah:g.bD=false:=by
  have:=O.2;unfold Cn at this;cases e:g.bD with
  |false=>rfl
  |true=>rw[e]at this;simp at this
 have aj:(g.aP,g.bD)∈((Fe S.rows).filter (CU S.rows)).map λx=>(x,D7 R x (BY S.rows x)):=by rw[<-U];exact zw.2 ⟨g,O.1,rfl⟩
 obtain⟨y,T,e⟩:=zw.1 aj;obtain⟨ak,al⟩:=Prod.mk.inj e;rw[<-ak];rw[ye]at T;obtain⟨r,u,aa⟩:=zw.1 T.1;rw[ye]at u;have ab:=AaP H u.1 u.2;rw[aa]at ab;refine⟨T.2,?_,al.trans ah⟩;have ac:=Wo H u.1 u.2;rw[aa]at ac;have:BY S.rows y=r.lits:=by unfold BY;rw[ac]
 rw[this];exact ab
def VJ(P:Aj->Prop)(u w:Aj)(Z:Cr)(zb:Nat)(L:AT)(E:Cv)(X:CW)(N:Dy)(H:An)(h:BE P u w Z zb L E X N H)(J:CC L zb E X)(U:X.aJ=false)(V:E.d<=1000000):AC 89 #[.pointer Z.e] w (Sg P u zb L Z E X N 0):=by
 have O:=h.ae.cell 4;have T:=h.ae.cell 14;unfold Bc at O T;rw[U]at T;have aa:=TS P u w Z zb L E X N H 0 h J.inv.az ⟨aat _,J.inv.az.d0⟩ V;go_enter func89,ntmps89;go_wp2_with fail
 refine(Gc w Z.e Z.Y.q O).mono ?_;rintro e ac⟨rfl,rfl⟩;go_wp2_with fail
 refine aa.mono ?_;rintro e w2⟨rfl,ab⟩;go_wp2;go_end0;exact⟨rfl,ab⟩
def VG(P:Aj->Prop)(J:Aj)(zb:Nat)(L:AT)(Z:Cr)(E:Cv)(X:CW)(N:Dy)(O:An)(e:Bz)(w':Aj):Prop:=∃(r:Int)(H:Cr)(u:Cv),e=.returned r/\H.e=Z.e/\BE P J w' H zb L u X N O/\CC L zb u X/\u.P.length<=E.P.length+1
def Aff(R:List AH)(zc:List Cf)(v:Aw)(W:Aj):Prop:=∃(A:AD)(n c:Nat)(u:List BI),v=.slice A n c/\BA W A n 4 (u.flatMap DR)/\u.map (λg=>(g.aP,g.bD))=((Fe zc).filter (CU zc)).map λx=>(x,D7 R x (BY zc x))
def Aff.ext{R:List AH}{zc:List Cf}{v:Aw}{W W':Aj}(h:Aff R zc v W)(u:Ae W W'):Aff R zc v W':=let⟨A,n,c,E,H,J,O⟩:=h;⟨A,n,c,E,H,J.ext u,O⟩
def AhK(R:List AH)(zc:List Cf)(out:An):Prop:=out.Nodup/\∀x∈out,CU zc x=true/\AY zc x=some (BY zc x)/\D7 R x (BY zc x)=false
def Afc(R:List AH)(zc:List Cf)(za:Nat)(v:Aw)(W:Aj):Prop:=∃A n c out,v=.slice A n c/\Ay W za (.slice A n c) out/\AhK R zc out
def Afc.ext{R:List AH}{zc:List Cf}{za:Nat}{v:Aw}{W W':Aj}(h:Afc R zc za v W)(u:Ae W W'):Afc R zc za v W':=let⟨A,n,c,E,H,J,O⟩:=h;⟨A,n,c,E,H,J.ext u,O⟩
def X6(za:Nat)(id:Int)(xs:An)(v:Aw)(W:Aj):Prop:=∃A' n' c',v=.agg #[.int .i64 2,id,AI,.slice A' n' c']/\Ay W za (.slice A' n' c') xs
def X6.ext{za:Nat}{id:Int}{xs:An}{v:Aw}{W W':Aj}(h:X6 za id xs v W)(u:Ae W W'):X6 za id xs v W':=let⟨A',n',c',E,H⟩:=h;⟨A',n',c',E,H.ext u⟩
def XN(za:Nat)(id:Int)(xs:An)(v:Aw)(W:Aj):Prop:=∃B d A' n' c',v=.slice B 1 d/\BA W B 1 4 [.int .i64 2,id,AI,.slice A' n' c']/\Ay W za (.slice A' n' c') xs
def XN.ext{za:Nat}{id:Int}{xs:An}{v:Aw}{W W':Aj}(h:XN za id xs v W)(u:Ae W W'):XN za id xs v W':=let⟨B,d,A',n',c',E,H,J⟩:=h;⟨B,d,A',n',c',E,H.ext u,J.ext u⟩
def Ai6(u H:World)(Z:Cr)(E:Cv)(xs:List Int)(v:Value)(J:World):Prop:=∃W B m d O A' n' c',v=.slice B m d/\Ae u W/\W.grownBy J Z.aV.ownBlock/\((Value.slice B m d).ownBlock=Z.aV.ownBlock\/(Value.slice B m d).ownBlock=some W.heap.size)/\AP W H.heap.size 105 4 Z.aV E.P.length O/\AP J H 105 4 (.slice B m d) (E.P.length+1) (O++[.int .i64 2,.int .i64 E.id,.slice none 0 0,.slice A' n' c'])/\Ay W u (.slice A' n' c') xs
def YT(P:Aj->Prop)(ah w:Aj)(Z:Cr)(zb:Nat)(L:AT)(E:Cv)(X:CW)(N:Dy)(aD:An)(ad:BE P ah w Z zb L E X N aD)(am:CC L zb E X)(bA:X.aJ=false)(cq:X.conflict<0)(bB:X.calm=false)(cr:E.P.length<=1000000000):AC 90 #[.pointer Z.e] w (VG P ah zb L Z E X N aD):=by
 have aT:=ad.ae.cell 4;have bC:=ad.ae.cell 11;have aU:=ad.ae.cell 14;have bD:=λW'(O:Ae w W')=>O.cell (ad.ae.cell 7);unfold Bc at aT bC aU bD;rw[bA]at aU;have di:decide (X.conflict>=0)=false:=zn Ad;have dj:decide (0<=X.conflict)=false:=zn Ad;have cs:=Gc w Z.e Z.Y.q aT;have ct:=zk bB;have aE:=ad.bb;clear bB bA;go_enter func90,ntmps90;go_wp2_with fail
 refine cs.mono ?_;rintro e bE⟨rfl,rfl⟩;go_wp2;refine Ct [(23,Aff E.R E.A.rows),(28,Afc E.R E.A.rows w)] (n:=7) AJ rfl rfl (.cons (λ_ _ _ h T=>h.ext T) (.cons (λ_ _ _ h T=>h.ext T) .nil)) ?_;simp only[List.take_succ_cons,List.take_zero];(repeat apply Ep rfl rfl (λW O=>Am) Am);refine Di 23 _ (by rfl) rfl rfl (by rfl) (λW' σ O ab=>?_) Am ?_;simp only[AQ];refine .inr ⟨_,_,by go_simp,(Xp P ah W' Z zb L E X N aD (ad.ext O)).mono ?_⟩;rintro e w'⟨A,n,c,aF,rfl,H,U,ac⟩;obtain⟨A',c',au,af,_⟩:=AP.aC H (by have af:=aby List.length ac;rw[z2,z2]at af;have bF:=yl (CU E.A.rows) (Fe E.A.rows);have cu:=MP E.A.rows;have:=aE;omega);cases au;exact⟨_,rfl,U,A,_,c,aF,rfl,af,ac⟩;(repeat apply Ep rfl rfl (λW O=>Am) Am);refine Di 28 _ (by rfl) rfl rfl (by rfl) (λW' σ O ab=>?_) Am ?_;obtain⟨A,n,c,aF,H,U,ac⟩:=ab 23 _ rfl AJ;simp only[AQ,H];have bG:=(ad.ext O).aM;have cv:∀r∈aF,r.aP∈Fe E.A.rows:=λr aj=>by
  have:(r.aP,r.bD)∈((Fe E.A.rows).filter (CU E.A.rows)).map λx=>(x,D7 E.R x (BY E.A.rows x)):=by rw[<-ac];exact zw.2 ⟨r,aj,rfl⟩
  obtain⟨y,aG,e⟩:=zw.1 this;obtain⟨au,_⟩:=Prod.mk.inj e;rw[<-au];exact(ye.1 aG).1
 have cx:=WW bG.inv bG.len;refine .inr ⟨_,_,by go_simp,(AdH W' A n c N.keep aF U (by have af:=aby List.length ac;rw[z2,z2]at af;have bF:=yl (CU E.A.rows) (Fe E.A.rows);have cu:=MP E.A.rows;have:=aE;omega) (λr aj=>cx _ (cv r aj))).mono ?_⟩;rintro e w'⟨v,out,dl,m,rfl,av,aV,cy,cz⟩;obtain⟨A',n',c',rfl⟩:=av.form;exact⟨_,rfl,aV,A',n',c',out,rfl,av.less O.size,Agv ad.aM.inv ac cy cz⟩;refine AN λW' σ bH ab=>?_;obtain⟨cA,aa,bI,out,H,aH,an⟩:=ab 28 _ rfl;simp only[AQ,H];have bJ:=ad.ext bH;have bK:aa=out.length:=aH.aL;have bL:=aE.1;have aI:=zk bK;clear ab H bD aT bC aU bK;by_cases aJ:aa=0
 . subst aJ;go_wp2;go_ret;exact⟨0,Z,E,rfl,rfl,bJ,am,Nat.le_succ _⟩
 . obtain⟨g,rfl⟩:∃g,cA=some ⟨g,0,none⟩:=by obtain⟨g,zh,e,_⟩:=aH.full (by rintro rfl;exact aJ aI);cases e;exact⟨g,rfl⟩
   have dm:aa<=bI:=LM aH;have cB:decide ((aa:Int)=0)=false:=zn Ad;have cC:((aa:Int)==0)=false:=by simpa using aJ
   have bM:∀x∈out,0<=x/\x<=Bh:=λx T=>(Aeq bJ am.inv x _ (an.2 x T).2.1).1;have cD:min (aa:Int) 1000=((min aa 1000:Nat):Int):=Ad;have aw:min aa 1000<=aa/\min aa 1000<=1000:=Ad;have cE:=aE.1.2;have dn:aa<=200000:=by
    have H:out.length<=E.A.rows.length:=by
     have U:∀x∈out,x∈E.A.rows.map Cf.pos:=λx T=>by obtain⟨r,_,aj,cF,_⟩:=EZ (an.2 x T).2.1;exact zw.2 ⟨r,aj,cF⟩
     have:=yf an.1 U;rwa[z2]at this
    have:=aI.out;omega
   have ak:=ad.freeze (Q:=λW=>AB W g aa out) bH (λbN aW=>Jw.own aH (by have:=aI.out;omega) (λx T=>by have:=bM x T;omega) (λb H _=>aW b H));go_wp2;generalize min aa 1000=k at aw⊢;obtain⟨dp,dq,dr,aX⟩:∃A n c,Z.aV=.slice A n c:=ak.dZ;have aK:=λW(O:Ae W' W)=>O.cell (ak.ae.cell 3);have aY:=λW(O:Ae W' W)=>O.cell (ak.ae.cell 10);have aL:=λW(O:Ae W' W)=>O.cell (ak.ae.cell 15);unfold Bc at aK aY aL;rw[aX]at aL;have aM:=zk aX;have ax:=aw;generalize aZ:(out.take k).map (Bb E.A.rows)=al;have a1:=zk aZ;have a5:(out.take k).length=k:=by rw[ya];have:=aI.out;omega
   have cG:=zk a5;have bO:al.length=k:=by rw[<-aZ,z2];exact a5
   have cH:=zk bO;clear aX aw cD cB cC aJ bL cE aZ a5 bO;refine Pt [(48,Abe W' al),(49,X6 W' E.id al),(50,XN W' E.id al)] (Ai6 W' ah Z E al) (λk=>k==0) (n:=14) (m:=17) (dk:=51) AJ rfl rfl rfl rfl (.cons (λ_ _ _ h T=>h.ext T) (.cons (λ_ _ _ h T=>h.ext T) (.cons (λ_ _ _ h T=>h.ext T) .nil))) ?_;simp only[List.take_succ_cons,List.take_zero,xp,aai];(repeat(first|(apply AiU rfl rfl rfl (λW O=>Am) Am)|(apply Ky rfl rfl rfl (λW O=>Am) Am)));refine Ae3 48 _ (by rfl) rfl rfl (by rfl) (λae aN O ab=>?_) Am ?_
   . simp only[AQ];have bP:=ak.ext O;have ac:=aK ae O;refine .inr ⟨_,_,by go_simp,(Wj ae Z.e ah Z.ap Z.ao Z.aX Z.a8 E.A g k bI (out.take k) bP.aM ac (bP.here.2.take ax.1) (by have:=ax;omega)).mono ?_⟩;rintro e w'⟨v,rfl,av,aV⟩;rw[a1.out]at av;obtain⟨A',n',c',rfl⟩:=av.form;exact⟨_,rfl,aV,A',n',c',rfl,av.less O.size⟩
   refine Ae3 49 _ (by rfl) rfl rfl (by rfl) (λae aN O ab=>?_) Am ?_;obtain⟨A',n',c',H,U⟩:=ab 48 _ rfl AJ;simp only[AQ,H];exact .inl ⟨_,_,by go_simp,Ae.refl _,A',n',c',rfl,U⟩;refine Ae3 50 _ (by rfl) rfl rfl (by rfl) (λae aN O ab=>?_) Am ?_;obtain⟨A',n',c',H,U⟩:=ab 49 _ rfl AJ;simp only[AQ,H];exact .inl ⟨_,_,by go_simp,by grind,_,1,A',n',c',rfl,BA.bz ae #[.int .i64 2,E.id,AI,.slice A' n' c'] 105,U.ext ((Ae.refl _).alloc _)⟩;refine AN ⟨λae aN a6 ab=>?_,λaN v bE cI=>?_⟩;obtain⟨B,d,A',n',c',H,cJ,cK⟩:=ab 50 _ rfl;simp only[AQ,H];obtain⟨a7,a8,_⟩:=(ak.ext a6).ef;rw[aM.out]at a8;have bQ:=a8;clear ab H a8 aL aK aY;go_wp2_with(at_builtin;refine D6 Rh _ rfl (.tmp 41) (.tmp 50) rfl ah _ _ a7 rfl bQ _ _ _ _ rfl cJ (by intro u bR;simp at bR;rcases bR with rfl|rfl|rfl|rfl<;>rfl) (by have:=cr;omega) (by have:=a6.size;have:=ak.1.size;omega) ?_;intro v4 cL a9 ba bS;obtain⟨ay,az,d4,rfl⟩:=a9.form;have cM:=a9;have cN:=bS;clear a9 bS)
   refine Cp (.slice ay az d4) rfl ⟨ae,ay,az,d4,a7,A',n',c',rfl,a6,?_,?_,?_,cM,cK⟩;rw[aM.out];exact ba;rw[aM.out];exact cN;rw[aM.out];exact bQ
   . obtain⟨ae,ay,az,d4,a7,A',n',c',rfl,bT,ao,bU,bV,bW,bc⟩:=cI;simp only[AQ];(repeat(first|(apply PU rfl (λW=>Am) Am)|(apply EC rfl Am)));refine Eg λbd be=>?_;have cO:=ak.freeze (Q:=λW=>AB W none 0 []/\AB W A' n' al) bT (λbN aW W cP=>⟨AB.nil W,Jw.own bc (by have:=cH.out;have:=ax;omega) (λy aG=>by rw[<-a1.out]at aG;obtain⟨z,_,rfl⟩:=zw.1 aG;have:=Xb am.inv.aS z;omega) (λb H _=>aW b H) W cP⟩);obtain⟨au,bN,aA,bf⟩:=cO;obtain⟨ds,bh,bX⟩:=aA.aD id;obtain rfl:=bV.uniq bh;have aB:Au (λ_=>False) bE bd:=be.stay;have bi:ae.grownBy bd Z.aV.ownBlock:=⟨aB.os.trans ao.os,aB.tape.trans ao.tape,aB.output.trans ao.output,z7 ao.size aB.size,λk bY aO=>(aB.block k (x6 bY ao.size) (λf=>f)).trans (ao.block k bY aO)⟩;have aO:Z.aV.ownBlock≠some Z.e:=λe=>by have H:=aA.bI _ e;have U:=aA.aK;rw[U]at H;cases H
     have bj:=((Au.refl (λb=>Z.aV.ownBlock=some b) ae).grown bi (λk e=>.inl e)).J (aA.ae id) aO;have bZ:=BE.dM (z:=⟨2,E.id,[],al⟩) (A:=none) (n:=0) (c:=0) (A':=A') (n':=n') (c':=c') (pv':=.slice ay az d4) au aA bf bX (bf.imp λW h=>h.2) (zs _) (LM bc) bi (bW.ext be) (by rcases bU with g|g;exact .inl g;exact .inr λk e=>by rw[g]at e;cases e;exact zs _);have b0:=bj.cell 15;have f15:=bj.frozen 15;unfold Bc at b0;have cQ:=bZ.cH (Q:=λW=>P W/\AB W g aa out) (λW h=>h.1);clear au aA bf bh bX aB bi aO bj bZ ao bU bV bW bT be bc aK aY aL;go_wp2;generalize bd.setCell ⟨Z.e,15,none⟩ (.slice ay az d4)=dt at *;clear b0 f15;go_loopw[56](λi wr=>∃(j:Nat)(J:Cr)(V:Fb)(aC:By),i=j/\j<=k/\J.e=Z.e/\BE (λW=>P W/\AB W g aa out) ah wr J zb L {E with P:=E.P++[⟨2,E.id,[],al⟩],A:=V,W:=aC} X N aD/\JL L zb E (out.take k) j V aC)(λi _=>k-(intOf i).toNat);case atStart=>exact⟨0,{Z with aV:=.slice ay az d4},E.A,E.W,rfl,zx _,rfl,cQ,JL.zero am.inv _⟩
     case round=>
      obtain⟨j,J,V,aC,rfl,du,aP,ag,aq⟩:=hrel;have aQ:=zk aP;have bL:k<=1000:=ax.2;by_cases cR:j<k;obtain⟨dv,x,cS,T,b1,b2,b3⟩:=(ag.here.2.take ax.1).at_ cR;cases cS;have b4:(g:Addr).add j=⟨g,j,none⟩:=by unfold Addr.add;split<;>simp_all
      rw[b4]at b1;have b5:x∈out:=xh (zm T);obtain⟨b6,aR,aw⟩:=an.2 x b5;have b7:(out.take k).Nodup:=an.1.sublist (ab3 _ _);have bk:=aq.fresh b7 T;have b8:aC.af x=some (BY E.A.rows x):=by have H:=aq.inv.af x;have U:aC.af x=AY V.rows x:=H;rw[U,<-aR];unfold AY;rw[bk]
      have b9:∀l∈BY E.A.rows x,l≠0:=λl cT=>by have H:=AU ((am.inv.ok x _ aR).2 l cT);intro e;rw[e]at H;have U:Ak 0=0:=Ax;omega
      have cU:=AdE wr wr _ _ J.aw J.bv J.Y aC E.seen E.R x (BY E.A.rows x) ag.pm b8 aq.inv.aG b9;have bn:=ag.ae.cell 3;have br:=ag.ae.cell 4;unfold Bc at bn br;rw[aP]at bn br;have cc:=And.intro b2 b3;have ce:=zk T;have aS:=zk (And.intro b6 (And.intro aR aw));have cV:=zk bk;have bh:(j:Int)<(k:Int):=Ad;have dw:(0:Int)<=(j:Int):=Ad;clear aP T b2 b3 b4 b5 b6 aR aw bk b8 b9 bn;go_wp2_with fail
      refine cU.mono ?_;rintro e w2⟨rfl,dx,bt,cf,cg,cW⟩;have bu:=ag.df cf ag.ah.2;have ac:=bu.ae.cell 3;unfold Bc at ac;rw[show({J with aw:=J.aw,bv:=J.bv,Y:=bt}:Cr).e=Z.e from aQ]at ac;have cX:=Ad3 w2 ah J.ap J.ao J.a8 J.aX V x bu.aM cc (by have H:J.aX+(Bv V.rows).length<=2*V.rows.length/\V.rows.length<=200000:=ag.bb.1;omega);have cY:=zk cg;clear cf cg b1 br;go_wp2_with fail
      refine cX.mono ?_;rintro e cZ⟨rfl,ch,ci,bw,cj,cm⟩;have cn:=aq.step b7 ce aS.1 (SQ am.inv.ah aS.2.1 (bM x (xh (zm ce))).1 aS.2.2) bw.inv cY cW;have bx:=bu.eb cj bw cm (by
       have H:J.aX+(Bv V.rows).length<=2*V.rows.length/\V.rows.length<=200000:=ag.bb.1;have dy:(Ds V x).rows.length=V.rows.length:=cn.len.2.trans aq.len.2.symm;cases aj:V.rows.find? (BR x)with
       |none=> have U:=cV.out;rw[aj]at U;have af:=aS.2.1;unfold AY at af;rw[<-U]at af;cases af
       |some r=> have bF:(Bv (Ds V x).rows).length<(Bv V.rows).length:=Su aq.inv.bj aj;omega)
      have bz:=bx.ae.cell 16;unfold Bc at bz;rw[show({({J with aw:=J.aw,bv:=J.bv,Y:=bt}:Cr)with ao:=ci,a8:=ch,aX:=J.aX+1}:Cr).e=Z.e from aQ]at bz;obtain⟨c0,c9,da,dc,dd⟩:=bx.dq;clear bw cj cm ac;go_wp2_with((refine V5 Hz _ rfl (.tmp 75) (.tmp 76) rfl J.aB c0 c9 rfl da x rfl cc ?_;intro cL de ba;skip))
      have df:=bx.dv (gn':=N.a7) ((Au.refl (λb=>b=J.aB) cZ).grown ba (λk e=>.inl (by cases e;rfl))) ⟨_,_,de,λy=>by by_cases e:y=x;exact .inl (zq e);simp only[zo e];exact dc y,z7 (yl _ _) dd⟩;clear bz;go_roundw;case rel=>exact⟨j+1,{J with Y:=bt,ao:=ci,a8:=ch,aX:=J.aX+1},_,_,by go_num,Ad,aQ,df,cn⟩
      case measure=>simp[intOf];omega
      . have dg:j=k:=Ad;subst dg;clear aP;go_wp2;go_ret;have co:(out.take j).length=j:=cG.out;have dh:(out.take j).Nodup:=an.1.sublist (ab3 _ _);have cp:=JL.done (g:=out.take j) (by rw[co];exact aq) am dh (λx T=>⟨_,(an.2 x (xh T)).2.1⟩) (by rw[co];exact ax.2) cq ct;rw[a1.out]at cp;exact⟨_,J,_,rfl,aQ,ag.cH (λW h=>h.1),cp,AG⟩
