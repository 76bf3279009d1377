import Derived.Test.YtdmempceikifeaaGreatA04
import Derived.ArgAppend
import Derived.Laws.CopyOwn
set_option maxRecDepth 100000
set_option maxHeartbeats 16000000
set_option linter.all false
namespace Go.Proofs.YtdmempceikifeaaGreat
open Go.RowKit Tryz
def Dn(w:Aj)(za:Nat)(v:Aw)(xs:An):Prop:=(v=AI/\xs=[])\/∃g zh u,v=.slice (some ⟨g,0,none⟩) xs.length zh/\za<=g/\Aq w g 3 u/\xs.length<=zh/\zh<=maxLen/\(u.size=zh\/zh=xs.length)/\zh<=u.size/\u.toList.take xs.length=xs.map (Value.int .i64)
section
variable{w w'}{za}{v}{xs}
theorem Dn.dm(h:Ay w za v xs):Dn w za v xs:=by rcases h.2 with⟨rfl,u⟩|⟨g,zh,E,rfl,hb,H,J,O,T,U⟩;exact Or.inl ⟨rfl,z9 u⟩;exact Or.inr ⟨g,zh,E,rfl,hb,H,J,O,Or.inl Ad,Ad,by simp_all⟩
theorem Dn.keep(h:Dn w za v xs)(e:∀k,v.ownBlock=some k->w'.heap[k]? =w.heap[k]?):Dn w' za v xs:=by rcases h with h|⟨g,zh,u,rfl,hb,E,rest⟩;exact Or.inl h;exact Or.inr ⟨g,zh,u,rfl,hb,E.keep (e g rfl),rest⟩
theorem Dn.lt(h:Dn w za v xs):∀k,v.ownBlock=some k->za<=k/\k<w:=by rcases h with⟨rfl,_⟩|⟨g,zh,E,rfl,hb,u,_⟩;intro k e;cases e;intro k e;cases e;exact⟨hb,u.lt⟩
theorem Dn.ext(h:Dn w za v xs)(u:Ae w w'):Dn w' za v xs:=h.keep λk e=>u.block k (h.lt k e).2
theorem Dn.kept{ze}(h:Dn w za v xs)(u:w.grownBy w' ze)(E:v.ownBlock=none\/v.ownBlock≠ze):Dn w' za v xs:=h.keep λk e=>u.block k (h.lt k e).2 (by simp_all)
theorem Dn.form(h:Dn w za v xs):∃A c,v=.slice A xs.length c/\xs.length<=c:=by rcases h with⟨rfl,rfl⟩|⟨g,zh,u,rfl,_,_,E,_⟩;simp_all;grind
theorem Dn.full(h:Dn w za v xs)(U:0<xs.length):∃g zh,v=.slice (some ⟨g,0,none⟩) xs.length zh/\xs.length<=zh/\(∀j x,xs[j]? =some x->w.cell? ⟨g,j,none⟩=some (.int .i64 x))/\(∀j,w.frozen? ⟨g,j,none⟩=false):=by
 rcases h with⟨rfl,rfl⟩|⟨g,zh,H,rfl,_,u,J,_,_,_,O⟩;simp_all;refine⟨g,zh,rfl,J,λj x E=>?_,λj=>u.frozen j⟩;have T:=(zl.1 E).1;rw[u.cell];have:(H.toList.take xs.length)[j]? =some x:=by rw[O,yd,E];rfl
 rw[xa T]at this;simp_all
theorem Dn.aC(h:Dn w za v xs)(E:xs.length<=Bh)(H:∀x∈xs,-9223372036854775808<=x/\x<=Bh):∃A c,v=.slice A xs.length c/\AB w A xs.length xs/\xs.length<=c:=by rcases xe xs.length with J|J;obtain⟨A,c,e,u⟩:=h.form;exact⟨A,c,e,⟨rfl,E,H,λO=>Ad⟩,u⟩;obtain⟨g,zh,e,u,T,_⟩:=h.full J;refine⟨_,zh,e,⟨rfl,E,H,λ_=>⟨_,rfl,λj x U=>?_⟩⟩,u⟩;grind[Addr.add]
theorem Dn.set{g n zh j}(h:Dn w za (.slice (some ⟨g,0,none⟩) n zh) xs)(y):Dn (w.setCell ⟨g,j,none⟩ (.int .i64 y)) za (.slice (some ⟨g,0,none⟩) n zh) (xs.set j y):=by rcases h with⟨e,_⟩|⟨aa,ab,ac,e,hb,E,H,J,O,T,U⟩;cases e;injection e with u V Z;injection u with u;injection u with u;subst u V Z;refine Or.inr ⟨g,zh,_,by rw[xj],hb,E.ad j y,by rw[xj];exact H,J,by rw[xj,yr];exact O,by rw[yr];exact T,?_⟩;rw[xj,List.map_set,<-U,Array.toList_setIfInBounds,List.take_set]
theorem SI(w U za v xs)(h:Dn w za v xs)(T m c H)(V:AB w (some T) m H)(aj:0<m)(hb:xs.length+m<=10000000000000)(ab:za<=w):
 ∃E w',(Builtin.append_ #[86,86] U #[v,.slice (some T) m c]).run prog w=.ok E w'/\Ay w' za E (xs++H)/\w.grownBy w' v.ownBlock/\∀k,E.ownBlock=some k->v.ownBlock=some k\/w<=k:=by
 have Ox:∀v,Ay w za v xs->∃E w',(Builtin.append_ #[86,86] U #[v,.slice (some T) m c]).run prog w=.ok E w'/\Ay w' za E (xs++H)/\w.grownBy w' v.ownBlock/\∀k,E.ownBlock=some k->v.ownBlock=some k\/w<=k:=λv J=>by
  obtain⟨E,w',hrun,ac,ad,O⟩:=Jp w U za v xs J (some T) m c H V hb ab
  grind
 rcases h with⟨rfl,rfl⟩|⟨g,zh,ae,rfl,ak,af,al,hmx,J,av,am⟩
 exact Ox _ (Ay.nil w za)
 rcases J with J|J
 refine Ox _ ⟨AG,Or.inr ⟨g,zh,ae,rfl,ak,af,al,hmx,Ad,by simp_all⟩⟩
 subst J
 obtain⟨i,hi,an,ao,ac⟩:=info_parts Jr
 obtain⟨aw,e,ax⟩:=V.2.2.2 aj
 cases e
 obtain⟨E,w',hrun,ad,O⟩:=run_append_arg_grows (P:=prog) w 86 U 3 i () 1 8 underlying86 hi an ao ac rfl Ax g xs.length xs.length (xs.map (Value.int .i64)) AG (λj u Z=>by
  rw[yd]at Z
  obtain⟨x,ag,rfl⟩:=aae.1 Z
  have aq:=(zl.1 ag).1
  have au:(g:Addr).add j=⟨g,j,none⟩:=by unfold Addr.add;split<;>simp_all
  rw[au,af.cell]
  have:(ae.toList.take xs.length)[j]? =some x:=by rw[am,yd,ag];rfl
  rw[xa aq]at this
  simp_all) T m c (H.map (Value.int .i64)) (by simp[V.1]) (λj u Z=>by
  rw[yd]at Z
  grind) Ad (by grind[maxLen]) Ad
 have ah:Ay w' w E (xs++H):=by
  unfold Ay
  rw[zu,V.1,yo]
  exact ad
 refine⟨E,w',hrun,ah.less ab,⟨O.os,O.tape,O.output,O.size,λk aa _=>O.block k aa AG⟩,λk aa=>Or.inr (ah.J k aa).1⟩
theorem Aci(w){zf rest o a Q}(J:o.guard=none)(s x) (O:o.op=.call {callee:=.builtin .append,args:=#[s,x],argTypes:=#[86,86]}) (za v xs)(T:a.eval s=v)(U:Dn w za v xs)(E m c H)(V:a.eval x=.slice (some E) m c)(Z:AB w (some E) m H)(aa:0<m) (hb:xs.length+m<=10000000000000)(ab:za<=w) (h:∀u w',Ay w' za u (xs++H)->w.grownBy w' v.ownBlock->(∀k,u.ownBlock=some k->v.ownBlock=some k\/w<=k)->wpList prog zf Q rest (a.put o.dst u) w'):wpList prog zf Q (o::rest) a w:=by refine x5 J λK ac=>?_;obtain⟨u,w',hrun,ad,ae,af⟩:=SI w o.type za v xs U E m c H Z aa hb ab;unfold Oper.wp execOp;simp only[O,resolve,invoke,builtin,aac,Sem.run_pure,Result.andThen_ok,aa8,xn,abd,T,V,hrun];exact ac _ _ (h u w' ad ae af)
end
structure BL(w)(za p mb)(lv)(K)(S:Fb):Prop where
 J:Aq w p 242 #[lv,.map (some mb)]
 row:Dn w za lv (Be S.rows)
 br:Cb w mb K (Bb S.rows)
 bp:za<=p
 bu:za<=mb
 inv:CG S
 bh:S.rows.length<=K
 dw:K<=1000000
section
variable{w w'}{za p mb K}{lv}{S}
theorem BL.ext(h:BL w za p mb lv K S)(u:Ae w w'):BL w' za p mb lv K S:=⟨h.J.ext u,h.row.ext u,h.br.ext u,h.bp,h.bu,h.inv,h.bh,h.dw⟩
theorem BL.len(h:BL w za p mb lv K S):(Be S.rows).length<=1003000000:=by have u:=Aem h.inv;have E:=h.bh;have H:=h.dw;omega
theorem BL.at_(h:BL w za p mb lv K S){x r}(J:S.rows.find? (BR x)=some r):
 ∃g zh i j,Hid (S.rows.findIdx? (BR x)=some i/\S.rows[i]? =some r/\j=(Be (S.rows.take i)).length/\r.live=true)/\lv=.slice (some ⟨g,0,none⟩) (Be S.rows).length zh/\(Be S.rows).length<=zh/\x=(j:Int)/\j+3+r.lits.length<=(Be S.rows).length/\
  w.cell? ⟨g,j,none⟩=some (.int .i64 r.id)/\w.cell? ⟨g,j+1,none⟩=some (.int .i64 (r.lits.length:Nat))/\w.cell? ⟨g,j+2,none⟩=some (.int .i64 (if r.cp then 1 else 0))/\
  (∀k y,r.lits[k]? =some y->w.cell? ⟨g,j+3+k,none⟩=some (.int .i64 y))/\∀k,w.frozen? ⟨g,k,none⟩=false:=by
 obtain⟨i,hi,u,O,T⟩:=FQ J
 have U:=LH u
 rw[G9]at U
 obtain⟨g,zh,e,V,Z,aa⟩:=h.row.full (by omega)
 have E:∀k y,(FK r)[k]? =some y->w.cell? ⟨g,(Be (S.rows.take i)).length+k,none⟩=some (.int .i64 y):=λk y H=>Z _ _ (by rw[Wq u (zl.1 H).1];exact H)
 have ab:Hr r=if r.cp then 1 else 0:=by grind[Hr]
 refine⟨g,zh,i,_,zk ⟨hi,u,rfl,T⟩,e,V,by rw[<-O];exact h.inv.pos i r u,Ad,E 0 _ rfl,E 1 _ rfl,?_,λk y H=>?_,aa⟩
 rw[<-ab];exact E 2 _ rfl
 rw[ad2]
 refine E (3+k) y ?_
 rw[ac1 3 k]
 exact H
end
def L7(p mb w)(h:w.cell? ⟨p,1,none⟩=some (.map (some mb))):Calls prog 214 #[.pointer (some ⟨p,0,none⟩)] w λe w'=>e=.returned (.bool true)/\w=w':=by
 have hb:∀W,(binOp .neq 174 (.map (some mb)) (.map none)).run prog W=.ok (.bool true) W:=λ_=>by kernel_rfl
 go_enter func214,ntmps214;go_wp2;go_ret;simp_all
def LB(w za p mb lv K S x)(h:BL w za p mb lv K S)(u:-9223372036854775808<=x/\x<=9223372036854775807):Calls prog 290 #[.pointer (some ⟨p,0,none⟩),.int .i64 x] w λe w'=>e=.returned (.bool (decide (0<Bb S.rows x)))/\w=w':=by
 have E:=h.J.cell 1;have hrun:=h.br.run x u;generalize Bb S.rows x=z at hrun⊢;go_enter func290,ntmps290;go_wp2_with(go_at_call 214;refine(L7 _ _ _ E).mono ?_;rintro e w'⟨rfl,rfl⟩)
 go_ret;simp_all
def W7(w za p mb lv K S x)(h:BL w za p mb lv K S)(J:-9223372036854775808<=x/\x<=9223372036854775807):Calls prog 254 #[.pointer (some ⟨p,0,none⟩),.int .i64 x] w λe w'=>e=.returned (Hm S x)/\w=w':=by
 have O:=h.J.cell 1;have hrun:=h.br.run x J;have E:=L5 h.inv x;by_cases u:Bb S.rows x=0;focus
  have H:Hid (Hm S x=20):=by unfold Hid Hm;rw[E.1 u]
  rw[u]at hrun
 rotate_left;focus
  have H:Hid (Hm S x=0):=by grind[Hid,Hm,BR]
  have hb:(Bb S.rows x==0)=false:=by simp_all
  generalize Bb S.rows x=z at hrun hb
 all_goals
  clear E u;go_enter func254,ntmps254;go_wp2_with(go_at_call 214;refine(L7 _ _ _ O).mono ?_;rintro e w'⟨rfl,rfl⟩)
  go_ret;exact⟨Bn H.symm,rfl⟩
def CU(zc:List Cf)(x:Int):Bool:=match zc.find? (BR x)with|some r=>r.cp|none=>false
def BY(zc:List Cf)(x:Int):An:=match zc.find? (BR x)with|some r=>r.lits|none=>[]
def Nw(w za p mb lv K S x)(H:BL w za p mb lv K S)(O:-9223372036854775808<=x/\x<=9223372036854775807):Calls prog 216 #[.pointer (some ⟨p,0,none⟩),.int .i64 x] w λe w'=>e=.returned (.int .i64 (Bb S.rows x))/\w=w':=by
 have T:=H.J.cell 0;cases u:S.rows.find? (BR x)with
 |none=>
  have E:=(L5 H.inv x).2 u;have J:=zk E;clear u E;go_enter func216,ntmps216;go_wp2_with(go_at_call 290;(with_reducible refine(LB _ za p mb lv K S x H O).mono ?_);rintro e w'⟨rfl,rfl⟩;rw[J.out])
  go_ret;exact⟨Bn J.symm,rfl⟩
 |some r=>
  have E:Bb S.rows x=r.id:=by unfold Bb;rw[u]
  obtain⟨g,zh,i,j,_,rfl,U,rfl,V,d0,_⟩:=H.at_ u;have Z:=(H.inv.ok r (y0 u)).1;obtain⟨ab,ac⟩:=Z;have ad:decide (0<r.id)=true:=zt Ad;have J:=zk E;have ae:(0:Int)<=(j:Int):=Ad;have aa:(j:Int)<((Be S.rows).length:Int):=Ad;clear u E;generalize(Be S.rows).length=n at T aa H V U;go_enter func216,ntmps216;go_wp2_with(go_at_call 290;(with_reducible refine(LB _ za p mb _ K S _ H O).mono ?_);rintro e w'⟨rfl,rfl⟩;rw[J.out])
  go_ret;exact⟨Bn J.symm,rfl⟩
def XP(w za p J lv K S x)(H:BL w za p J lv K S)(T:-9223372036854775808<=x/\x<=9223372036854775807):Calls prog 251 #[.pointer (some ⟨p,0,none⟩),.int .i64 x] w λe w'=>e=.returned (.bool (CU S.rows x))/\w=w':=by
 have Z:=H.J.cell 0;cases u:S.rows.find? (BR x)with
 |none=>
  have O:=zk ((L5 H.inv x).2 u);have E:Hid (CU S.rows x=false):=by unfold Hid CU;rw[u]
  clear u;go_enter func251,ntmps251;go_wp2_with(go_at_call 290;(with_reducible refine(LB _ za p J lv K S x H T).mono ?_);rintro e w'⟨rfl,rfl⟩;rw[O.out])
  go_ret;exact⟨Bo E.symm,rfl⟩
 |some r=>
  have U:Bb S.rows x=r.id:=by unfold Bb;rw[u]
  have E:Hid (CU S.rows x=r.cp):=by unfold Hid CU;rw[u]
  obtain⟨g,zh,i,j,_,rfl,aa,rfl,ab,_,_,d2,_⟩:=H.at_ u;have ac:=(H.inv.ok r (y0 u)).1;obtain⟨af,ag⟩:=ac;have ad:=H.len;have ah:=zt Ad;have O:=zk U;have aj:(0:Int)<=(j:Int):=Ad;have ae:(j:Int)+2<((Be S.rows).length:Int):=Ad;have ak:=z5 _ Ad;clear u U;generalize(Be S.rows).length=n at Z ae H ab aa ad;cases V:r.cp;all_goals
   rw[V]at d2 E;clear V;go_enter func251,ntmps251;go_wp2_with(go_at_call 290;(with_reducible refine(LB _ za p J _ K S _ H T).mono ?_);rintro e w'⟨rfl,rfl⟩;rw[O.out])
   go_ret;exact⟨Bo E.symm,rfl⟩
def AdA(w)(p g n zh j m:Nat)(u:w.cell? p=some (.slice g n zh))(d1:w.cell? ⟨g,j+1,none⟩=some (.int .i64 (m:Nat)))(E:j+3+m<=n)(H:n<=zh)(J:n<=1003000000):AC 291 #[.pointer p,j] w λe w'=>e=.returned (.slice (some ⟨g,if m=0 then 0 else j+3,none⟩) m m)/\w=w':=by
 have O:(0:Int)<=(j:Int):=Ad;have T:(j:Int)+1<(n:Int):=Ad;have U:(j:Int)+3+(m:Int)<=(n:Int):=Ad;have V:IntKind.i64.wrap ((j:Int)+1)=(j:Int)+1:=z5 _ Ad;have Z:IntKind.i64.wrap ((j:Int)+3)=(j:Int)+3:=z5 _ Ad;have aa:IntKind.i64.wrap ((j:Int)+3+(m:Int))=(j:Int)+3+(m:Int):=z5 _ Ad;rcases xe m with rfl|ab
 . go_enter func291,ntmps291;go_wp2;go_ret;simp_all
 . have ac:¬m=0:=Ad;go_enter func291,ntmps291;go_wp2;go_ret;simp_all
def BL.eK{w za p J K lv S}(h:BL w za p J lv K S){i r}(E:S.rows[i]? =some r):
 ∃g zh,lv=.slice (some ⟨g,0,none⟩) (Be S.rows).length zh/\(Be S.rows).length<=zh/\(Be (S.rows.take i)).length+3+r.lits.length<=(Be S.rows).length/\
  w.cell? ⟨g,(Be (S.rows.take i)).length,none⟩=some (.int .i64 r.id)/\w.cell? ⟨g,(Be (S.rows.take i)).length+1,none⟩=some (.int .i64 (r.lits.length:Nat))/\w.cell? ⟨g,(Be (S.rows.take i)).length+2,none⟩=some (.int .i64 (Hr r)):=by
 have O:=LH E
 rw[G9]at O
 obtain⟨g,zh,e,T,U,_⟩:=h.row.full (by omega)
 have u:∀k y,(FK r)[k]? =some y->w.cell? ⟨g,(Be (S.rows.take i)).length+k,none⟩=some (.int .i64 y):=λk y H=>U _ _ (by rw[Wq E (zl.1 H).1];exact H)
 exact⟨g,zh,e,T,by omega,u 0 _ rfl,u 1 _ rfl,u 2 _ rfl⟩
def Z7{zc:List Cf}{i}{r:Cf}(h:zc[i]? =some r):Fe (zc.take (i+1))=Fe (zc.take i)++if r.live then[r.pos]else[]:=by unfold Fe;rw[AM h,y5,yo];cases u:r.live<;>simp[u]
def Jz{zc:List Cf}{i r}(h:zc[i]? =some r):(Be (zc.take (i+1))).length=(Be (zc.take i)).length+3+r.lits.length:=by rw[AM h,Mj,zu,G9];omega
def MP(zc):(Fe zc).length<=zc.length:=by unfold Fe;rw[z2];exact yl _ _
def Um(r):Hr r=2↔r.live=false:=by unfold Hr;cases r.live<;>simp<;>split<;>omega
def WW{S}(h:CG S)(H:(Be S.rows).length<=1003000000):∀x∈Fe S.rows,-9223372036854775808<=x/\x<=Bh:=by intro x u;obtain⟨r,E,rfl⟩:=zw.1 u;obtain⟨i,hi⟩:=abw.1 (ye.1 E).1;have J:=h.pos i r hi;have O:=LH hi;omega
def AfA(w za p ae lv K S)(H:BL w za p ae lv K S):AC 250 #[.pointer p] w (GX (Fe S.rows) w):=by
 have ao:=H.len;have aq:=z7 H.bh H.dw;obtain⟨A,c,af,_⟩:=H.row.form;skip;go_enter func250,ntmps250;go_wp2_with(go_at_call 214;refine(L7 _ _ _ (H.J.cell 1)).mono ?_;rintro e w'⟨rfl,rfl⟩)
 go_loopw[3,4](λv a wr=>∃i,i<=S.rows.length/\a=.int .i64 ((Be (S.rows.take i)).length:Nat)/\Ay wr w v (Fe (S.rows.take i))/\Ae w wr)(λ_ a _=>(Be S.rows).length-(intOf a).toNat);case atStart=>exact⟨0,zx _,rfl,Ay.nil _ _,Ae.refl _⟩
 case round=>
  obtain⟨i,hi,rfl,T,u⟩:=hrel;have au:=(H.ext u).J.cell 0;have av:=u.size_le;skip;by_cases ag:i<S.rows.length;obtain⟨r,E⟩:∃r,S.rows[i]? =some r:=⟨S.rows[i],zr ag⟩;obtain⟨g,zh,rfl,aw,ah,_,d1,d2⟩:=H.eK E;have O:=zk (Z7 E);have U:=zk (Jz E);have V:=H.inv.pos i r E;have ax:=MP (S.rows.take i);have ay:=aa4 i S.rows;generalize(Be (S.rows.take i)).length=j at ah d1 d2 V U⊢;have az:(0:Int)<=(j:Int):=Ad;have aA:(j:Int)+1<((Be S.rows).length:Int):=Ad;have aB:(j:Int)+2<((Be S.rows).length:Int):=Ad;have aC:(j:Int)<((Be S.rows).length:Int):=Ad;have aD:IntKind.i64.wrap ((j:Int)+1)=(j:Int)+1:=z5 _ Ad;have aE:IntKind.i64.wrap ((j:Int)+2)=(j:Int)+2:=z5 _ Ad;have aF:IntKind.i64.wrap (3+(r.lits.length:Int))=3+(r.lits.length:Int):=z5 _ Ad;have aG:IntKind.i64.wrap ((j:Int)+(3+(r.lits.length:Int)))=(j:Int)+(3+(r.lits.length:Int)):=z5 _ Ad;have aj:=zk d1;have ac:=u.cell d2;have aH:=u.cell d1;rw[V]at O;clear V d1 d2;cases J:r.live with
  |true=>
   have Z:(Hr r !=2)=true:=by rw[bne_iff_ne];intro e;rw[Um,J]at e;cases e
   rw[J,zq rfl]at O;clear J E;generalize Hr r=ak at ac Z;go_wp2_with(at_builtin;refine BW _ rfl (.tmp 35) (.tmp 37) rfl w _ _ rfl (T.alloc _) _ _ _ rfl (BD _ _ _) Ad Ad Ca ?_;intro aI aJ al ad _;have aa:=Ae.grown (u.alloc _) ad (λq am=>(T.J q am).1);have aK:=(H.ext aa).J.cell 0;have aL:=aa.cell aj.out;clear ad)
   go_roundw;case rel=>exact⟨i+1,Ad,by rw[U.out];go_num,by rw[O.out];exact al,aa⟩
   case measure=>simp[intOf];omega
  |false=>
   have Z:(Hr r !=2)=false:=by rw[bne_eq_false_iff_eq,Um];exact J
   rw[J,zo AG,yg]at O;clear J E;generalize Hr r=ak at ac Z;go_wp2_with fail
   go_roundw;case rel=>exact⟨i+1,Ad,by rw[U.out];go_num,by rw[O.out];exact T,u⟩
   case measure=>simp[intOf];omega
  have ab:=T;have e:S.rows.take i=S.rows:=z1 Ad;rw[e]at ab⊢;have an:=ab;clear ab e;subst af;go_wp2_with fail
  go_ret;exact⟨_,rfl,an,u⟩
def Gr{w g xs}(u:w.heap[g]? =some (.cells (xs.map (Value.int .i64)).toArray 3 (0,0)))(E:xs.length<=1000000):Ay w g (.slice g xs.length xs.length) xs:=⟨AG,Or.inr ⟨g,xs.length,_,rfl,zs _,u,zs _,by unfold maxLen;omega,AG,by simpa using z1 AG⟩⟩
def X9{L u:List Aw}(h:L.length=u.length):splice L 0 u=u:=by unfold splice;rw[List.take_zero,List.nil_append,abt Ad,yg]
def I9(w za p T lv K S x)(H:BL w za p T lv K S)(Z:-9223372036854775808<=x/\x<=9223372036854775807):Calls prog 217 #[.pointer (some ⟨p,0,none⟩),.int .i64 x] w (GX (BY S.rows x) w):=by
 have aa:=H.J.cell 0;cases E:S.rows.find? (BR x)with
 |none=>
  have U:=zk ((L5 H.inv x).2 E);have V:Hid (BY S.rows x=[]):=by unfold Hid BY;rw[E]
  go_enter func217,ntmps217;go_wp2_with(go_at_call 290;(with_reducible refine(LB _ za p T lv K S x H Z).mono ?_);rintro e w'⟨rfl,rfl⟩;rw[U.out])
  go_ret;exact⟨_,rfl,by rw[V.out];exact Ay.nil _ _,Ae.refl _⟩
 |some r=>
  have ah:Bb S.rows x=r.id:=by unfold Bb;rw[E]
  have V:Hid (BY S.rows x=r.lits):=by unfold Hid BY;rw[E]
  obtain⟨g,zh,i,j,_,rfl,ab,rfl,ac,_,d1,_,d3,_⟩:=H.at_ E;obtain⟨⟨aC,aD⟩,aE,_⟩:=(H.inv.ok r (y0 E));have ad:=H.len;have aF:decide (0<r.id)=true:=zt Ad;have U:=zk ah;have aj:(j:Int)+1<((Be S.rows).length:Int):=Ad;obtain⟨ak,hi,al,am,an⟩:=info_parts Jr;have ao:=λW=>Ci (P:=prog) 86 3 ak _ underlying86 hi al .i64 .i64 r.lits.length r.lits.length (zs _) (by rw[an];omega) Ad W;rw[am,abc]at ao;have J:=(Ae.refl w).alloc (Obj.cells (madeCells #[Value.int .i64 0] r.lits.length) 3);have ae:=J.cell aa;have aq:Hid (∀k u,(r.lits.map (Value.int .i64))[k]? =some u->(w.alloc (Obj.cells (madeCells #[Value.int .i64 0] r.lits.length) 3)).cell? ((⟨g,j+3,none⟩:Addr).add k)=some u):=by
   intro k u O;rw[yd]at O;obtain⟨y,au,rfl⟩:=aae.1 O;have av:(⟨g,j+3,none⟩:Addr).add k=⟨g,j+3+k,none⟩:=by unfold Addr.add;split<;>simp_all
   rw[av];exact J.cell (d3 k y au)
  have aw:Hid ((w.alloc (Obj.cells (madeCells #[Value.int .i64 0] r.lits.length) 3)).heap[w.heap.size]? =some (.cells (madeCells #[Value.int .i64 0] r.lits.length).toList.toArray 3 (0,0))):=by unfold Hid;rw[Array.toArray_toList];exact Aq.new w 3 (madeCells #[Value.int .i64 0] r.lits.length)
  generalize(Be S.rows).length=n at aa ae aj H ac ab ad;go_enter func217,ntmps217;go_wp2_with(go_at_call 290;(with_reducible refine(LB _ za p T _ K S _ H Z).mono ?_);rintro e w'⟨rfl,rfl⟩;rw[U.out])
  refine(AdA _ p g n zh j r.lits.length ae (J.cell d1) ac ab ad).mono ?_;rintro e w'⟨rfl,rfl⟩;obtain⟨o,af⟩:∃o,(if r.lits.length=0 then 0 else j+3)=o:=⟨_,rfl⟩;rw[af];have ax:=zk af;go_wp2_with(refine wpList_copy_splice (o:=⟨some 23,_,_,_,_,_⟩) rfl (.tmp 19) (.tmp 22) 86 86 rfl 3 underlying86 AJ w (some ⟨g,o,none⟩) r.lits.length r.lits.length r.lits.length r.lits.length rfl rfl w 0 (madeCells #[Value.int .i64 0] r.lits.length).toList 3 aw.out (r.lits.map (Value.int .i64)) AG (λay=>⟨rfl,⟨g,j+3,none⟩,by rw[<-ax.out,zo (by rw[z2]at ay;omega)],λk u O=>aq.out k u O⟩) (by simp[madeCells]) (by intro u az;obtain⟨y,_,rfl⟩:=zw.1 az;rfl) w w J (zs _) ?_;intro aG aA aB;skip)
  go_ret;refine⟨_,rfl,?_,aB⟩;rw[V.out];have ag:=aA.out;rw[X9 (by simp[madeCells])]at ag;exact Gr ag Ad
section
open Go.Maps
def Cb.del{w b k f}(h:Cb w b k f)(x)(H:-9223372036854775808<=x/\x<=9223372036854775807)(u:TypeId):∃w',(Builtin.delete_ #[174,3] u #[.map (some b),.int .i64 x]).run prog w=.ok (.tuple #[]) w'/\Cb w' b k (λz=>if z=x then 0 else f z)/\w.grownBy w' (some b):=by obtain⟨D,J,Z,O⟩:=h;obtain⟨w',hrun,E,T⟩:=J.drop DZ underlying174 (keyOf_int_mk underlying3 (C2 H)) u;refine⟨w',hrun,⟨_,E,E.isMap,λz U V=>?_⟩,T.grown⟩;show _=DataW.lit (Lit.int .i64 (if z=x then 0 else f z));by_cases e:z=x;subst e;rw[zq rfl,atKey_del_same];rw[zo e,atKey_del_other (λh=>e (by injection h)),O z U V]
def VV(w){zf rest o a Q}(u:o.guard=none)(m x)(E:o.op=Op.call {callee:=Callee.builtin Builtin.delete,args:=#[m,x],argTypes:=#[174,3]}) (b k f)(H:a.eval m=.map (some b))(J:Cb w b k f)(y)(O:a.eval x=.int .i64 y)(T:-9223372036854775808<=y/\y<=9223372036854775807) (U:∀w',Cb w' b k (λz=>if z=y then 0 else f z)->w.grownBy w' (some b)->wpList prog zf Q rest (a.put o.dst (.tuple #[])) w'):wpList prog zf Q (o::rest) a w:=by refine x5 u λac V=>?_;obtain⟨w',hrun,Z,aa⟩:=J.del y T o.type;unfold Oper.wp;simp[execOp,E,resolve,invoke,builtin,H,O,hrun,Result.andThen];exact V _ _ (U w' Z aa)
def LQ(p u:Nat)(lv:Aw)(b:Nat):Prop:=b=p\/b=u\/lv.ownBlock=some b
def LO(w w':Aj)(za p u:Nat)(lv:Aw)(K:Nat)(S:Fb):Prop:=∃E H,BL w' za p H E K S/\Au (LQ p u lv) w w'/\∀b,LQ p H E b->LQ p u lv b\/w<=b
def Dn.ai{w za g v xs t u}(h:Dn w za v xs)(E:Aq w g t u)(H:3≠t):v.ownBlock≠some g:=by
 rcases h with⟨rfl,_⟩|⟨O,zh,T,rfl,_,J,_⟩;exactλe=>by cases e
 intro e;have e':=xg e;subst e';exact J.aU E H rfl
def Cb.bV{w b k za f v xs}(h:Cb w b k f)(E:Dn w za v xs):v.ownBlock≠some b:=by
 obtain⟨D,⟨H,cl,hb,_⟩,_⟩:=h;rcases E with⟨rfl,_⟩|⟨J,zh,O,rfl,_,u,_⟩;exactλe=>by cases e
 intro e;have e':=xg e;subst e';unfold Aq at u;rw[u]at hb;cases hb
def Cb.bR{w b k g f t E}(h:Cb w b k f)(u:Aq w g t E):b≠g:=by obtain⟨D,⟨H,cl,hb,_⟩,_⟩:=h;rintro rfl;unfold Aq at u;rw[u]at hb;cases hb
def BL.lt{w za p u K lv S}(h:BL w za p u lv K S){b}(hb:LQ p u lv b):za<=b/\b<w:=by rcases hb with rfl|rfl|hb;exact⟨h.bp,h.J.lt⟩;exact⟨h.bu,h.br.lt⟩;exact h.row.lt b hb
def BL.same{w w' za p u K lv S}(h:BL w za p u lv K S)(E:∀b,b<w.heap.size->LQ p u lv b->w'.heap[b]? =w.heap[b]?):BL w' za p u lv K S:=⟨(E p h.J.lt (Or.inl rfl)).trans h.J,h.row.keep λk e=>E k (h.row.lt k e).2 (Or.inr (Or.inr e)),h.br.keep (E u h.br.lt (Or.inr (Or.inl rfl))),h.bp,h.bu,h.inv,h.bh,h.dw⟩
def LO.refl{w w' za p E K lv S}(h:BL w za p E lv K S)(u:Ae w w')(H:K+1<=1000000):LO w w' za p E lv (K+1) S:=⟨lv,E,⟨h.J.ext u,h.row.ext u,(h.br.ext u).mono Ad,h.bp,h.bu,h.inv,by have:=h.bh;omega,H⟩,Ae.stay u,λb hb=>Or.inl hb⟩
def AdI{S}(h:CG S){x i r}(hi:S.rows.findIdx? (BR x)=some i)(u:S.rows[i]? =some r)(f)(aa:(f r).pos=r.pos)(O:(f r).lits.length=r.lits.length)(ab:(f r).id=r.id)(ac:∀y∈(f r).lits,-100000<=y/\y<=100000):Nq S.rows x f=S.rows.set i (f r)/\CG ⟨S.rows.set i (f r),S.size⟩:=by
 have T:=(zl.1 u).1;have ad:Nq S.rows x f=S.rows.set i (f r):=by unfold Nq;rw[hi];simp only[u]
 have U:∀j,(Be ((S.rows.set i (f r)).take j)).length=(Be (S.rows.take j)).length:=by
  intro j;induction j with
  |zero=>rfl
  |succ j E=>
   by_cases ae:j<S.rows.length;have V:=zr ae;by_cases e:i=j;subst e;have J:(S.rows.set i (f r))[i]? =some (f r):=by rw[x4 T]
   rw[Jz J,Jz u,E,O];have J:(S.rows.set i (f r))[j]? =some S.rows[j]:=by rw[y3 e];exact V
   rw[Jz J,Jz V,E];rw[z1 (by rw[xj];omega),z1 Ad];rw[z1 (by rw[xj];omega),z1 Ad]at E;exact E
 refine⟨ad,⟨λj a H=>?_,?_,λa H=>?_⟩⟩;show a.pos=_;rw[U j];by_cases e:i=j;subst e;have:(S.rows.set i (f r))[i]? =some a:=H;rw[x4 T]at this;cases this;rw[aa];exact h.pos i r u;have:(S.rows.set i (f r))[j]? =some a:=H;rw[y3 e]at this;exact h.pos j a this;have:=U S.rows.length;rw[z1 AG,z1 (zs _)]at this;show S.size=_;rw[this];exact h.size;rcases aav H with af|rfl;exact h.ok a af;have Z:=h.ok r (zm u);exact⟨by rw[ab];exact Z.1,by rw[O];exact Z.2.1,ac⟩
end
section
open Go.Maps
def MB{S}(h:CG S){z a}:S.rows.find? (BR z)=some a↔∃i:Nat,S.rows[i]? =some a/\a.pos=z/\a.live=true:=by
 constructor;intro e;obtain⟨i,_,u,E,H⟩:=FQ e;exact⟨i,u,E,H⟩;rintro⟨i,u,E,H⟩;cases e:S.rows.find? (BR z)with
 |none=> rw[y6]at e;exact absurd (by simp[BR,E,H]) (e a (zm u))
 |some b=> obtain⟨j,_,J,O,_⟩:=FQ e;have:=h.inj u J (by rw[E,O]);subst this;rw[u]at J;rw[J]
def AdD{S n i r u}(h:CG S)(aa:CG ⟨S.rows.set i u,n⟩)(ab:S.rows[i]? =some r)(V:u.pos=r.pos)(z):(S.rows.set i u).find? (BR z)=if z=r.pos then(if u.live then some u else none)else S.rows.find? (BR z):=by
 have O:(S.rows.set i u)[i]? =some u:=by rw[x4 (zl.1 ab).1]
 have T:∀{a},(S.rows.set i u).find? (BR z)=some a↔∃j,(S.rows.set i u)[j]? =some a/\a.pos=z/\a.live=true:=MB aa;by_cases e:z=r.pos;rw[zq e];cases ac:u.live with
 |true=>rw[zq rfl];exact T.2 ⟨i,O,by rw[V,e],ac⟩
 |false=>
  rw[zo AG];cases U:(S.rows.set i u).find? (BR z)with
  |none=>rfl
  |some b=> obtain⟨j,E,H,J⟩:=T.1 U;have:=aa.inj (show(Fb.mk (S.rows.set i u) n).rows[i]? =some u from O) E (by rw[V,H,e]);subst this;rw[O]at E;cases E;rw[ac]at J;cases J
 rw[zo e];cases U:S.rows.find? (BR z)with
 |some b=>
  obtain⟨j,E,H,J⟩:=(MB h).1 U;have Z:i≠j:=by rintro rfl;rw[ab]at E;cases E;exact e H.symm
  exact T.2 ⟨j,by rw[y3 Z];exact E,H,J⟩
 |none=>
  cases ad:(S.rows.set i u).find? (BR z)with
  |none=>rfl
  |some b=>
   obtain⟨j,E,H,J⟩:=T.1 ad;have Z:i≠j:=by rintro rfl;rw[O]at E;cases E;exact e (by rw[<-H,V])
   rw[y3 Z]at E;have:=(MB h).2 ⟨j,E,H,J⟩;rw[U]at this;cases this
def Adr(r):FK {r with live:=false}=(FK r).set 2 2:=by simp[FK,Hr]
def Ad3(w za p u lv K S x)(H:BL w za p u lv K S)(V:-9223372036854775808<=x/\x<=9223372036854775807)(ad:K+1<=1000000):Calls prog 159 #[.pointer (some ⟨p,0,none⟩),.int .i64 x] w λe w'=>e=.returned (.int .i64 (Hm S x))/\LO w w' za p u lv (K+1) (Ds S x):=by
 have am:=H.J.cell 0;have aD:=H.J.cell 1;cases T:S.rows.find? (BR x)with
 |none=>
  have E:Hid (Hm S x=20):=by unfold Hid Hm;rw[T]
  have Z:Hid (Ds S x=S):=by unfold Hid Ds;rw[E.out,zo (by decide)]
  go_enter func159,ntmps159;go_wp2_with(go_at_call 254;(with_reducible refine(W7 _ za p u lv K S x H V).mono ?_);rintro e w'⟨rfl,rfl⟩;rw[E.out])
  go_ret;exact⟨Bn E.symm,by rw[Z.out];exact LO.refl H (Ae.refl _) ad⟩
 |some r=>
  have E:Hid (Hm S x=0):=by unfold Hid Hm;rw[T]
  obtain⟨g,zh,i,j,ae,rfl,an,rfl,ao,_,_,d2,_,af⟩:=H.at_ T;have aq:=H.len;have au:(j:Int)+2<((Be S.rows).length:Int):=Ad;obtain⟨ag,J,aa,av⟩:=ae.out;have ah:=H.inv.ok r (zm J);have U:=AdI H.inv ag J (λr=>{r with live:=false}) rfl rfl rfl ah.2.2;have ab:=H.inv.pos i r J;rw[<-aa]at ab;have Z:Hid (Ds S (j:Int)=⟨S.rows.set i {r with live:=false},S.size⟩):=by unfold Hid Ds;rw[E.out,zq rfl,U.1]
  have aj:Be (S.rows.set i {r with live:=false})=(Be S.rows).set (j+2) 2:=by rw[aa];exact AcV J (by rw[G9];omega) (Adr r)
  have ak:∀z,Bb (S.rows.set i {r with live:=false}) z=if z=(j:Int)then 0 else Bb S.rows z:=λz=>by unfold Bb;rw[AdD H.inv U.2 J rfl z,ab];by_cases e:z=(j:Int);rw[zq e,zq e];rfl;rw[zo e,zo e]
  have aw:=zk aj;have ax:=zk ak;have ay:=U.2;have ac:g≠u:=λe=>H.br.bV H.row (by rw[e];rfl);have al:p≠u:=λe=>H.br.bR H.J e.symm;have f2:=af (j+2);clear T ae U ah aj ak ab ag J aa av af;generalize(Be S.rows).length=n at am au ao an aq H;go_enter func159,ntmps159;go_wp2_with(first
   |(go_at_call 254;(with_reducible refine(W7 _ za p u _ K S _ H V).mono ?_);rintro e w'⟨rfl,rfl⟩;rw[E.out])
   |(refine VV _ rfl (.tmp 15) (.tmp 16) rfl u K (Bb S.rows) rfl H.br _ rfl V ?_;intro w2 az O;have aE:=(H.J.grown O (by simpa using al)).cell 0;have aA:w2.cell? ⟨g,j+2,none⟩=w.cell? ⟨g,j+2,none⟩:=(by have:=xu w ⟨g,j+2,none⟩ d2;have hb:=O.block g this (by intro e;injection e with e;exact ac e);simp only[World.cell?,hb]);rw[d2]at aA;have f3:w2.frozen? ⟨g,j+2,none⟩=false:=(by have:=xu w ⟨g,j+2,none⟩ d2;have hb:=O.block g this (by intro e;injection e with e;exact ac e);rw[<-f2];simp only[World.frozen?,hb]);skip))
  go_ret;refine⟨Bn E.symm,?_⟩;rw[Z.out];have aB:g≠p:=λe=>H.row.ai H.J Ax (by rw[e];rfl);have aC:Cb w2 u K (Bb (S.rows.set i {r with live:=false})):=az.congr λz=>by show(if z=(j:Int)then 0 else Bb S.rows z)=_;rw[ax z]
  refine⟨_,u,⟨(H.J.grown O (by simpa using al)).ar (p:=⟨g,j+2,none⟩) (yb aB) _,?_,(aC.keep (yt w2 ⟨g,j+2,none⟩ _ u (yb ac))).mono Ad,H.bp,H.bu,ay,?_,ad⟩,?_,λb hb=>Or.inl hb⟩;rw[aw.out];exact((H.row.kept O (Or.inr (H.br.bV H.row))).set (j:=j+2) 2);have:=H.bh;show(S.rows.set i _).length<=K+1;rw[xj];omega;exact((Au.refl (LQ p u (.slice g n zh)) w).grown O (λk e=>by cases e;exact Or.inl (Or.inr (Or.inl rfl)))).setCell (p:=⟨g,j+2,none⟩) (Or.inl (Or.inr (Or.inr rfl))) _
end
