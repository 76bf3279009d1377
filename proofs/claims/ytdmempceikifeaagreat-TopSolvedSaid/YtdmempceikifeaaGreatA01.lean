import Derived.BigQuiet
import Derived.Deep.QuietTactic
import Derived.Laws.Entries
import Derived.Laws.MakeOwn
import Derived.Lib.Hide
import Derived.Test.YtdmempceikifeaaGreatProg
import Derived.WalkKit
import Derived.WalkLawsBesides
import Derived.WalkSpells
set_option maxRecDepth 100000
set_option maxHeartbeats 16000000
set_option linter.all false
namespace Go.Proofs.YtdmempceikifeaaGreat
open Go.RowKit Tryz
def zk:=@Lib.hid
def zl:=@List.getElem?_eq_some_iff
def zm:=@List.mem_of_getElem?
def zn:=@decide_eq_false
def zo:=@if_neg
def zq:=@if_pos
def zr:=@List.getElem?_eq_getElem
def zs:=@Nat.le_refl
def zt:=@decide_eq_true
def zu:=@List.length_append
def zv:=@List.mem_range
def zw:=@List.mem_map
def zx:=@Nat.zero_le
def zy:=@List.mem_singleton
def zz:=@List.mem_append
def z0:=@List.getElem?_of_mem
def z1:=@List.take_of_length_le
def z2:=@List.length_map
def z3:=@World.size_alloc
def z4:=@Bool.and_eq_true
def z5:=@IntWalk.i64_in
def z6:=@Array.getElem?_eq_some_iff
def z7:=@Nat.le_trans
def z8:=@decide_eq_true_eq
def z9:=@List.eq_nil_of_length_eq_zero
def ya:=@List.length_take
def yb:=@Ne.symm
def yc:=@List.getD_eq_getElem?_getD
def yd:=@List.getElem?_map
def ye:=@List.mem_filter
def yf:=@List.Nodup.length_le_of_subset
def yg:=@List.append_nil
def yh:=@List.getElem?_append_left
def yi:=@List.getElem?_append_right
def yj:=@List.mem_cons_of_mem
def yk:=@List.mem_flatMap
def yl:=@List.length_filter_le
def ym:=@Nat.mul_le_mul
def yn:=@List.all_eq_true
def yo:=@List.map_append
def yp:=@List.mem_append_left
def yq:=@List.findIdx?_eq_some_iff_getElem
def yr:=@Array.size_setIfInBounds
def yt:=@Below.heap_setCell
def yu:=@rounds_succ
def yv:=@beq_eq_false_iff_ne
def yw:=@bodyPost_ret
def yx:=@List.mem_cons_self
def yy:=@List.append_assoc
def yz:=@List.findIdx?_eq_none_iff
def y0:=@List.mem_of_find?_eq_some
def y1:=@Int.eq_ofNat_of_zero_le
def y2:=@List.nodup_append
def y3:=@List.getElem?_set_ne
def y4:=@List.flatMap_append
def y5:=@List.filter_append
def y6:=@List.find?_eq_none
def y7:=@List.any_eq_true
def y8:=@List.drop_eq_getElem_cons
def y9:=@List.length_range
def xa:=@List.getElem?_take_of_lt
def xb:=@List.getElem?_take
def xc:=@wp_loop_rounds
def xd:=@Array.getElem?_setIfInBounds_ne
def xe:=@Nat.eq_zero_or_pos
def xf:=@World.size_setCell
def xg:=@Option.some.inj
def xh:=@List.mem_of_mem_take
def xi:=@List.range_succ
def xj:=@List.length_set
def xk:=@List.mem_append_right
def xl:=@List.mem_cons
def xm:=@List.any_eq_false
def xn:=@List.map_cons
def xo:=@List.pairwise_iff_getElem
def xp:=@List.drop_succ_cons
def xq:=@results_cell_row
def xr:=@List.foldl_append
def xt:=@List.take_append_drop
def xu:=@World.block_lt_of_cell?
def xv:=@Nat.zero_add
def xw:=@List.filter_sublist
def xx:=@List.nodup_cons
def xy:=@World.ownsRow.lt
def xz:=@List.getElem_inj
def x0:=@List.take_length
def x1:=@DataW.trod_int
def x2:=@List.pairwise_map
def x3:=@beq_iff_eq
def x4:=@List.getElem?_set_self
def x5:=@wpList_plain
def x6:=@Nat.lt_of_lt_of_le
def x7:=@Oper.upon_enter
def x8:=@Exit.noGoto_ret
def x9:=@List.filter_eq_self
def aaa:=@Int.neg_neg
def aab:=@Nat.lt_or_ge
def aac:=@Sem.run_bind
def aad:=@Classical.byContradiction
def aae:=@Option.map_eq_some_iff
def aaf:=@heap_alloc_new
def aag:=@Nat.le_of_lt
def aah:=@decide_eq_false_iff_not
def aai:=@List.drop_zero
def aaj:=@List.getElem?_drop
def aak:=@List.getElem_mem
def aal:=@List.getElem?_range
def aam:=@Int.natCast_mul
def aan:=@World.ownsRow.kept
def aao:=@List.filter_cons_of_neg
def aap:=@List.filter_cons_of_pos
def aaq:=@Nat.add_sub_cancel_left
def aar:=@Bool.false_or
def aas:=@List.filter_eq_nil_iff
def aat:=@Int.le_refl
def aau:=@Array.getElem?_eq_getElem
def aav:=@List.mem_or_eq_of_mem_set
def aaw:=@List.set_append_right
def aax:=@List.length_replicate
def aay:=@World.grownBy.refl
def aaz:=@getD_set_ne
def aa0:=@Region.noSelect_spec
def aa1:=@Nat.pow_le_pow_right
def aa2:=@List.flatMap_cons
def aa3:=@List.find?_some
def aa4:=@List.length_take_le
def aa5:=@execOp_congr
def aa6:=@Nat.le_of_eq
def aa7:=@callsIn_wide
def aa8:=@List.map_toArray
def aa9:=@Array.all_eq_true_iff_forall_mem
def aba:=@List.nodup_range
def abb:=@List.Perm.refl
def abc:=@Nat.mul_one
def abd:=@List.map_nil
def abe:=@Addr.add_add
def abf:=@List.find?_eq_some_iff_getElem
def abg:=@Bool.or_eq_true
def abh:=@World.ownsRow.stored
def abi:=@Nat.pow_succ
def abj:=@List.take_add_one
def abk:=@IntWalk.wrap64_in
def abl:=@Bool.true_and
def abm:=@Int.mul_le_mul_of_nonneg_left
def abn:=@List.getElem?_replicate
def abo:=@Nat.testBit_add_one
def abp:=@Array.getElem?_setIfInBounds
def abq:=@List.take_take
def abr:=@List.drop_length
def abs:=@Array.getElem?_eq_none
def abt:=@List.drop_of_length_le
def abu:=@Array.getD_eq_getD_getElem?
def abv:=@List.pairwise_cons
def abw:=@List.mem_iff_getElem?
def abx:=@List.any_append
def aby:=@congrArg
def abz:=@Int.tdiv_eq_ediv_of_nonneg
def ab0:=@World.ownsRow_nil
def ab1:=@Array.any_eq_true
def ab2:=@Array.getElem_mem
def ab3:=@List.take_sublist
def ab4:=@List.pairwise_append
def ab5:=@World.cell?_setCell_other
def ab6:=@Nat.pow_lt_pow_right
def ab7:=@Array.getElem?_setIfInBounds_self
def ab8:=@List.nodup_nil
def ab9:=@List.eq_of_mem_replicate
def aca:=@World.ownsMap_made
def acb:=@Bool.eq_iff_iff
def acc:=@Array.getElem_setIfInBounds_ne
def acd:=@List.eq_nil_iff_forall_not_mem
def ace:=@List.take_left'
def acf:=@Bool.false_eq_true
def acg:=@Nat.testBit_and
def ach:=@List.drop_eq_nil_of_le
def aci:=@List.find?_append
def acj:=@List.filter_congr
def ack:=@Array.getElem?_toList
def acl:=@List.dropLast_concat_getLast
def acm:=@List.getElem?_eq_none
def acn:=@List.set_getElem_self
def aco:=@List.length_mergeSort
def acp:=@Array.ext
def acq:=@Nat.mul_le_mul_right
def acr:=@Array.replicate_succ
def acs:=@Nat.eq_of_testBit_eq
def act:=@Array.getElem?_setIfInBounds_self_of_lt
def acu:=@World.ownsRow.alloc
def acv:=@List.take_set_of_le
def acw:=@List.append_toArray
def acx:=@List.mergeSort_perm
def acy:=@Value.slice.inj
def acz:=@Oper.semAt_some
def ac0:=@Nat.two_pow_pos
def ac1:=@Nat.add_comm
def ac2:=@List.mem_filterMap
def ac3:=@Nat.lt_trans
def ac4:=@List.filter_filter
def ac5:=@List.map_map
def ac6:=@Array.extract_size
def ac7:=@Bool.false_and
def ac8:=@List.pairwise_mergeSort
def ac9:=@List.ext_getElem?
def ada:=@List.push_toArray
def adb:=@List.length_pos_of_mem
def adc:=@Option.map_eq_none_iff
def add:=@Below.heap_alloc
def ade:=@List.getElem_map
def adf:=@List.not_mem_nil
def adg:=@List.take_succ_eq_append_getElem
def adh:=@List.filter_cons
def adi:=@Nat.succ_mul
def adj:=@List.contains_eq_mem
def adk:=@Nat.mul_comm
def adl:=@Calls.mono
def adm:=@List.mem_of_mem_drop
def adn:=@Nat.sub_self
def ado:=@List.set_set
def adp:=@Array.getElem?_range
def adq:=@Nat.div_lt_of_lt_mul
def adr:=@Int.mul_le_mul_of_nonneg_right
def ads:=@List.take_append_of_le_length
def adt:=@List.countP_eq_zero
def adu:=@Int.toNat_of_nonneg
def adv:=@Nat.mod_one
def adw:=@Nat.add_mul
def adx:=@Array.ext_getElem?
def ady:=@List.getElem_range
def adz:=@Int.natCast_nonneg
def ad0:=@mem_ready
def ad1:=@Array.getElem?_map
def ad2:=@Nat.add_assoc
def ad3:=@List.map_take
def ad4:=@Bool.not_eq_true'
def ad5:=@Nat.lt_trichotomy
def ad6:=@Nat.ne_of_lt
def ad7:=@List.Sublist.map
instance:Coe Int Value:=⟨.int .i64⟩
instance:Coe Nat Value:=⟨λx=>.int .i64 x⟩
instance:Coe Bool Value:=⟨.bool⟩
instance:Coe Nat Addr:=⟨λg=>⟨g,0,none⟩⟩
instance:Coe Nat (Option Addr):=⟨λg=>some ⟨g,0,none⟩⟩
instance:Coe World Nat:=⟨λw=>w.heap.size⟩
instance:Coe Unit Value:=⟨λ_=>.int .i64 0⟩
inductive Ko(n:Nat)|mk
def AF:Ko 0:=.mk
instance:Coe (Ko 0) Value:=⟨λ_=>.int .i64 1⟩
def AI:Ko 1:=.mk
instance:Coe (Ko 1) Value:=⟨λ_=>.slice none 0 0⟩
def Bh:Ko 2:=.mk
instance:Coe (Ko 2) Int:=⟨λ_=>9223372036854775807⟩
instance:Coe (Ko 2) Nat:=⟨λ_=>9223372036854775807⟩
def Aj:Ko 3:=.mk
instance:CoeSort (Ko 3) Type:=⟨λ_=>World⟩
def AD:Ko 4:=.mk
instance:CoeSort (Ko 4) Type:=⟨λ_=>Option Addr⟩
def An:Ko 5:=.mk
instance:CoeSort (Ko 5) Type:=⟨λ_=>List Int⟩
def AT:Ko 6:=.mk
instance:CoeSort (Ko 6) Type:=⟨λ_=>List (List Int)⟩
def Aw:Ko 7:=.mk
instance:CoeSort (Ko 7) Type:=⟨λ_=>Value⟩
def Bz:Ko 8:=.mk
instance:CoeSort (Ko 8) Type:=⟨λ_=>Ending⟩
def Ck:Ko 9:=.mk
instance:CoeSort (Ko 9) Type:=⟨λ_=>Array Value⟩
def AC:Ko 10:=.mk
instance:CoeFun (Ko 10) λ_=>FuncId->Array Value->World->(Ending->World->Prop)->Prop:=⟨λ_=>Calls prog⟩
def Ad{p:Prop}(h:p:=by omega):p:=h
def Ax{p:Prop}(h:p:=by decide):p:=h
def AJ{p:Prop}(h:p:=by kernel_rfl):p:=h
def Am{p:Prop}(h:p:=by go_simp;rfl):p:=h
def AG{p:Prop}(h:p:=by simp):p:=h
def Ca{p:Prop}(h:p:=by simp;omega):p:=h
def Ajq{q p:Prop}(e:q)(h:q->p:=by intro h;omega):p:=h e
def R9(p)[Decidable p]:decide p=true\/decide p=false:=by cases h:decide p<;>simp
def Bn{k a b}(h:a=b):Ending.returned (.int k a)=.returned (.int k b):=by rw[h]
def Bo{a b}(h:a=b):Ending.returned (.bool a)=.returned (.bool b):=by rw[h]
def PY{k u a b c d}(h:a=b)(E:c=d):Ending.returned (.tuple #[.int k a,.int u c])=.returned (.tuple #[.int k b,.int u d]):=by rw[h,E]
def AaA(a:Nat)(u:a<9223372036854775808):(BitVec.ofInt 64 (a:Int)).toNat=a:=by rw[BitVec.ofInt_natCast,BitVec.toNat_ofNat];exact Nat.mod_eq_of_lt (by omega)
def QB{P f args}{w:World}{n v} (h:Calls P f args (w.drewN n) λe w'=>e=.returned v/\w.drewN n=w'):Calls P f args (w.drewN n) λe u=>e=.returned v/\∃m,u=w.drewN m:=h.mono λ_ _⟨E,H⟩=>⟨E,n,H.symm⟩
def Ci{P}(t e i z)(J:P.underlying t=some (.slice e))(hi:P.info? e=some i)(O:i.zero=some z) (u E)(n c:Nat)(T:n<=c)(U:i.bytes*c<=281474976710656)(V:c<=9223372036854775807)(w):(Instr.makeSlice t (.int u (n:Int)) (.int E (c:Int))).run P w=.ok (.slice (some ⟨w.heap.size,0,none⟩) n c) (w.alloc (.cells (madeCells z.cells (c*i.size)) e)):=by
 have hb:(i.bytes:Int)*(c:Int)<=281474976710656:=by
  have h:((i.bytes*c:Nat):Int)<=281474976710656:=by omega
  rwa[aam]at h
 have H:=run_make (P:=P) w t e i z J hi O u E n c (by omega) (by omega) hb (by omega);simp only[Int.toNat_natCast]at H;exact H
def F4{P}(t k e u n)(E:P.underlying t=some (.map k e))(w):(Instr.makeMap t (some (.int u n))).run P w=.ok (.map (some w.heap.size)) (w.alloc (.map #[] 0)):=by simp[Instr.makeMap,run_underlying E];rfl
def UU{k a b c d}(h:a=b)(u:c=d):Ending.returned (.tuple #[.int k a,.bool c])=.returned (.tuple #[.int k b,.bool d]):=by rw[h,u]
def T4(n v:Int):Bool:=n !=0&&decide (-v<=n)&&decide (n<=v)
def Qz(n:Int):Bool:=n !=0&&decide (-100000<=n)&&decide (n<=100000)
def AV(l v:Int):Int:=if v<0\/100000<v then 2 else if l≠0/\-v<=l/\l<=v then 0 else 10
def Ak(l:Int):Int:=if l<0 then(if-100000<=l then-l else 0)else if l<=100000 then l else 0
def IJ(l:Int):Int:=if-100000<=l/\l<=100000 then-l else 0
def La(v:Int)(t:Bool):Int:=if v<1\/100000<v then 0 else if t then v else-v
def S5(v:Int):Int:=if v<1\/100000<v then 10 else 0
def GO(l:Int):Int:=if 0<l/\l<=100000 then 2*l-2 else if l<0/\-100000<=l then-2*l-1 else-1
def FI(l:Int):Bool:=decide (0<l)&&decide (l<=100000)
def Ta{n}(h:Qz n=true):n≠0/\-100000<=n/\n<=100000:=by simpa[Qz,and_assoc]using h
def S9{n}(h:Qz n=false):n=0\/n< -100000\/100000<n:=by grind[Qz]
def AiH{n v}(h:T4 n v=true):n≠0/\-v<=n/\n<=v:=by simpa[T4,and_assoc]using h
def Aik{n v}(h:T4 n v=false):n=0\/n< -v\/v<n:=by grind[T4]
def Adi(n v)(u:0<=v)(E:v<=100000)(w):Calls prog 288 #[.int .i64 n,.int .i64 v] w λe w'=>e=.returned (.bool (T4 n v))/\w=w':=by go_enter func288,ntmps288;go_wp2;all_goals go_ret;refine⟨?_,rfl⟩;simp[T4, *]<;>omega
def Nu(n w):Calls prog 223 #[.int .i64 n] w λe w'=>e=.returned (.bool (Qz n))/\w=w':=by
 go_enter func223,ntmps223;go_wp2_with(go_at_call 288;refine(Adi n 100000 (by decide) (by decide) _).mono ?_;rintro e w'⟨rfl,rfl⟩)
 go_ret;exact⟨rfl,rfl⟩
def Hg(l v w):Calls prog 210 #[.int .i64 l,.int .i64 v] w λe w'=>e=.returned (.int .i64 (AV l v))/\w=w':=by
 by_cases H:v<0\/100000<v
 . go_enter func210,ntmps210;go_wp2;all_goals go_ret;exact⟨Bn (by rw[AV,zq (by omega)]),rfl⟩
 have u:0<=v:=by omega
 have E:v<=100000:=by omega
 skip;cases hi:T4 l v;have hb:=Aik hi;go_enter func210,ntmps210;go_wp2_with(go_at_call 288;refine(Adi l v u E _).mono ?_;rintro e w'⟨rfl,rfl⟩)
 go_ret;have:=hb;exact⟨Bn (by rw[AV,zo H,zo (by omega)]),rfl⟩;have hb:=AiH hi;go_enter func210,ntmps210;go_wp2_with(go_at_call 288;refine(Adi l v u E _).mono ?_;rintro e w'⟨rfl,rfl⟩)
 go_ret;have:=hb;exact⟨Bn (by rw[AV,zo H,zq Ad]),rfl⟩
def BF(l w):Calls prog 141 #[.int .i64 l] w λe w'=>e=.returned (.int .i64 (Ak l))/\w=w':=by
 cases h:Qz l
 . have hb:=S9 h;go_enter func141,ntmps141;go_wp2_with(go_at_call 223;refine(Nu l _).mono ?_;rintro e w'⟨rfl,rfl⟩)
   go_ret;have:=hb;exact⟨Bn (by unfold Ak;split<;>(try split)<;>omega),rfl⟩
 obtain⟨_,u,E⟩:=Ta h;go_enter func141,ntmps141;go_wp2_with(go_at_call 223;refine(Nu l _).mono ?_;rintro e w'⟨rfl,rfl⟩)
 all_goals go_ret;exact⟨Bn (by unfold Ak;split<;>(try split)<;>omega),rfl⟩
def Yj(l w):Calls prog 372 #[.int .i64 l] w λe w'=>e=.returned (.int .i64 (IJ l))/\w=w':=by
 cases h:Qz l;have hb:=S9 h;go_enter func372,ntmps372;go_wp2_with(go_at_call 223;refine(Nu l _).mono ?_;rintro e w'⟨rfl,rfl⟩)
 go_ret;have:=hb;exact⟨Bn (by unfold IJ;split<;>omega),rfl⟩;obtain⟨_,u,E⟩:=Ta h;go_enter func372,ntmps372;go_wp2_with(go_at_call 223;refine(Nu l _).mono ?_;rintro e w'⟨rfl,rfl⟩)
 go_ret;exact⟨Bn (by unfold IJ;split<;>omega),rfl⟩
def Ahq(v t w):Calls prog 166 #[.int .i64 v,.bool t] w λe w'=>e=.returned (.tuple #[.int .i64 (La v t),.int .i64 (S5 v)])/\w=w':=by
 by_cases u:v<1
 . go_enter func166,ntmps166;go_wp2;go_ret2;exact⟨PY (by rw[La,zq (by omega)]) (by rw[S5,zq (by omega)]),rfl⟩
 . cases h:Qz v
   . have hb:=S9 h;go_enter func166,ntmps166;go_wp2_with(go_at_call 223;refine(Nu v _).mono ?_;rintro e w'⟨rfl,rfl⟩)
     go_ret2;have:=hb;exact⟨PY (by rw[La,zq Ad]) (by rw[S5,zq Ad]),rfl⟩
   . obtain⟨_,E,H⟩:=Ta h;cases t;all_goals
      go_enter func166,ntmps166;go_wp2_with(go_at_call 223;refine(Nu v _).mono ?_;rintro e w'⟨rfl,rfl⟩)
      go_ret2;exact⟨PY (by rw[La,zo (by omega)];rfl) (by rw[S5,zo Ad]),rfl⟩
def Af9(l w):Calls prog 347 #[.int .i64 l] w λe w'=>e=.returned (.int .i64 (GO l))/\w=w':=by
 cases h:Qz l
 . have hb:=S9 h;go_enter func347,ntmps347;go_wp2_with(go_at_call 223;refine(Nu l _).mono ?_;rintro e w'⟨rfl,rfl⟩)
   go_ret;have:=hb;exact⟨Bn (by unfold GO;split<;>(try split)<;>omega),rfl⟩
 obtain⟨_,u,E⟩:=Ta h;have H:0<=Ak l/\Ak l<=100000:=by unfold Ak;split<;>(try split)<;>omega
 go_enter func347,ntmps347;go_wp2_with(first|(go_at_call 223;refine(Nu l _).mono ?_;rintro e w'⟨rfl,rfl⟩)|(go_at_call 141;refine(BF l _).mono ?_;rintro e w'⟨rfl,rfl⟩))
 all_goals go_ret;exact⟨Bn (by grind[GO,Ak]),rfl⟩
structure Ba where
 st:Int
 aq:Int
 ax:Int
 aT:Int
structure AZ where
 aD:Int
 aq:Int
 st:Int
 an:Int
 aT:Int
def DT(zc:List Ba)(s k:Int):Option (Int×Int):=(zc.find? λr=>r.st==s&&r.aq==k).map λr=>(r.ax,r.aT)
def Dq(zc:List Ba)(x:AZ)(s:Int):Option Int:=match DT zc s x.aq with
 |some (u,rs)=>if x.an≠-1/\x.aT≠rs then none else some u
 |none=>none
def Cw(a b:AZ):Bool:=decide (0<=a.an)&&decide (a.an<b.st)
def Afi:AZ:=⟨0,0,0,0,0⟩
def opAt(l:List AZ)(i:Nat):AZ:=l.getD i Afi
def Cx(n a b:Nat):Int:=((a*n+b+1:Nat):Int)
def Er(n a:Nat):Int:=((n*n+a+1:Nat):Int)
def Dd(n S a b:Nat):Int:=((n*n+n+a*S+b+1:Nat):Int)
def BJ(n S:Nat):Nat:=n*n+n+(n+1)*S
def BQ:An->AT
 |[]=>[]
 |v::t=>t.map (λw=>[-v,-w])++BQ t
def EA(n a:Nat):An:=(List.range n).map λk=>Cx n a k
def Gu(n k:Nat):An:=(List.range n).map λa=>Cx n a k
def Fj(n:Nat):AT:=((List.range n).flatMap λa=>EA n a::BQ (EA n a))++(List.range n).flatMap λk=>BQ (Gu n k)
def Cc(l:List AZ):List (Nat×Nat):=(List.range l.length).flatMap λi=>((List.range l.length).filter λj=>Cw (opAt l i) (opAt l j)).map λj=>(i,j)
def EN(n:Nat)(p:Nat×Nat):AT:=if p.1=p.2 then[]else(List.range n).flatMap λa=>(List.range a).map λb=>[-Cx n p.1 a,-Cx n p.2 b]
def Gk(n:Nat)(ps:List (Nat×Nat)):AT:=ps.flatMap (EN n)
def ER(n S a:Nat):An:=(List.range S).map λb=>Dd n S a b
def Fl(n S zj:Nat):AT:=[Dd n S 0 zj]::(List.range (n+1)).flatMap λa=>ER n S a::BQ (ER n S a)
def Ic(zc:List Ba)(n S:Nat)(x:AZ)(i k b:Nat):AT:=([-Cx n i k,-Er n i,-Dd n S k b]++match Dq zc x b with|some u=>[Dd n S (k+1) u.toNat]|none=>[])::if x.an=-1 then[[-Cx n i k,Er n i,-Dd n S k b,Dd n S (k+1) b]]else[]
def Od(zc:List Ba)(n S:Nat)(x:AZ)(i:Nat):AT:=(if x.an=-1 then[]else[[Er n i]])++(List.range n).flatMap λk=>(List.range S).flatMap λb=>Ic zc n S x i k b
def FL(zc:List Ba)(l:List AZ)(S:Nat):AT:=(List.range l.length).flatMap λi=>Od zc l.length S (opAt l i) i
def DM(zc:List Ba)(l:List AZ)(S zj:Nat):AT:=Fj l.length++Gk l.length (Cc l)++Fl l.length S zj++FL zc l S
def Tt(t:Int->Bool)(x:Int):Prop:=(0<x/\t x=true)\/(x<0/\t (-x)=false)
def Gh(t:Int->Bool)(c:An):Prop:=∃x∈c,Tt t x
def Dv(n a b:Nat):0<Cx n a b:=by grind[Cx]
theorem Ge(n a:Nat):0<Er n a:=by grind[Er]
theorem Eo(n S a b:Nat):0<Dd n S a b:=by grind[Dd]
theorem Gl{t:Int->Bool}{x:Int}(h:0<x):Tt t x↔t x=true:=by grind[Tt]
theorem ET{t:Int->Bool}{x:Int}(h:0<x):Tt t (-x)↔t x=false:=by unfold Tt;rw[aaa];grind
theorem Ol{t:Int->Bool}{x:Int}:Gh t [x]↔Tt t x:=by simp[Gh]
theorem Om{t:Int->Bool}{x y:Int}:Gh t [x,y]↔Tt t x\/Tt t y:=by simp[Gh]
theorem O2{vs:An}{c:An}:c∈BQ vs↔∃i j:Nat,∃v w,i<j/\vs[i]? =some v/\vs[j]? =some w/\c=[-v,-w]:=by
 induction vs with
 |nil=>simp[BQ]
 |cons v vs E=>
  rw[BQ,zz,E,zw];constructor;rintro(⟨w,H,rfl⟩|⟨i,j,a,b,J,O,T,rfl⟩);obtain⟨j,U⟩:=z0 H;exact⟨0,j+1,v,w,Ad,AG,by simp_all,rfl⟩;grind;rintro⟨i,j,a,b,J,O,T,rfl⟩;cases i with
  |zero=> obtain⟨u,rfl⟩:∃u,j=u+1:=⟨j-1,Ad⟩;grind
  |succ i=> obtain⟨u,rfl⟩:∃u,j=u+1:=⟨j-1,Ad⟩;grind
def Hf{t:Int->Bool}{f:Nat->Int}(u:∀k,0<f k){n:Nat}:(∀c∈BQ ((List.range n).map f),Gh t c)↔∀i j,i<j->j<n->t (f i)=false\/t (f j)=false:=by constructor;intro h i j E H;have:=h [-f i,-f j] (O2.2 ⟨i,j,f i,f j,E,by grind,by simp_all,rfl⟩);rw[Om,ET (u i),ET (u j)]at this;omega;grind[O2,List.getElem?_eq_some_iff,Om,ET]
def J8{t:Int->Bool}{f:Nat->Int}(u:∀k,0<f k){n:Nat}:Gh t ((List.range n).map f)↔∃k,k<n/\t (f k)=true:=by unfold Gh;constructor;grind[Gl];rintro⟨k,E,h⟩;exact⟨f k,zw.2 ⟨k,zv.2 E,rfl⟩,(Gl (u k)).2 h⟩
def ZZ{t:Int->Bool}{f:Nat->Int}{n:Nat}(u:∃k,k<n/\t (f k)=true)(H:∀i j,i<j->j<n->t (f i)=false\/t (f j)=false):∃s,s<n/\∀k,k<n->t (f k)=decide (s=k):=by obtain⟨s,E,J⟩:=u;refine⟨s,E,λk O=>?_⟩;grind
def AbE{t:Int->Bool}{f:Nat->Int}{n s:Nat}(u:s<n)(h:∀k,k<n->t (f k)=decide (s=k)):(∃k,k<n/\t (f k)=true)/\∀i j,i<j->j<n->t (f i)=false\/t (f j)=false:=by grind
structure Ie(zc:List Ba)(l:List AZ)(S zj:Nat)(t:Int->Bool)(σ ze:Nat->Nat):Prop where
 lt:∀a,a<l.length->σ a<l.length
 place:∀a,a<l.length->∀k,k<l.length->t (Cx l.length a k)=decide (σ a=k)
 inj:∀a b,a<l.length->b<l.length->σ a=σ b->a=b
 time:∀i j,i<l.length->j<l.length->i≠j->Cw (opAt l i) (opAt l j)=true->σ i<σ j
 cF:∀k,k<=l.length->ze k<S
 state:∀k,k<=l.length->∀b,b<S->t (Dd l.length S k b)=decide (ze k=b)
 ds:ze 0=zj
 ended:∀i,i<l.length->(opAt l i).an≠-1->t (Er l.length i)=true
 move:∀i,i<l.length->t (Er l.length i)=true->Dq zc (opAt l i) (ze (σ i))=some ((ze (σ i+1):Nat):Int)
 stay:∀i,i<l.length->t (Er l.length i)=false->ze (σ i+1)=ze (σ i)
def NZ{t:Int->Bool}{n:Nat}:(∀c∈Fj n,Gh t c)↔∃σ:Nat->Nat,(∀a,a<n->σ a<n)/\(∀a,a<n->∀k,k<n->t (Cx n a k)=decide (σ a=k))/\∀a b,a<n->b<n->σ a=σ b->a=b:=by
 constructor;intro h;have U:∀a,a<n->∃s,s<n/\∀k,k<n->t (Cx n a k)=decide (s=k):=λa E=>by have O:Gh t (EA n a):=h _ (yp _ (yk.2 ⟨a,zv.2 E,yx ..⟩));have J:∀c∈BQ (EA n a),Gh t c:=λc u=>h _ (yp _ (yk.2 ⟨a,zv.2 E,yj _ u⟩));exact ZZ ((J8 (Dv n a)).1 O) ((Hf (Dv n a)).1 J)
 have aa:∀k,k<n->∀i j,i<j->j<n->t (Cx n i k)=false\/t (Cx n j k)=false:=λk H=>by have J:∀c∈BQ (Gu n k),Gh t c:=λc u=>h _ (xk _ (yk.2 ⟨k,zv.2 H,u⟩));exact(Hf (λa=>Dv n a k)).1 J
 refine⟨λa=>if E:a<n then(U a E).choose else 0,λa E=>?_,λa E k H=>?_,λa b E hb e=>?_⟩;grind;grind;grind;rintro⟨σ,V,T,hi⟩c u;rcases zz.1 u with u|u;obtain⟨a,E,u⟩:=yk.1 u;rw[zv]at E;obtain⟨O,J⟩:=AbE (V a E) (T a E);rcases xl.1 u with rfl|u;exact(J8 (Dv n a)).2 O;exact(Hf (Dv n a)).2 J c u;obtain⟨k,H,u⟩:=yk.1 u;rw[zv]at H;refine(Hf (λa=>Dv n a k)).2 (λi j ab Z=>?_) c u;rw[T i Ad k H,T j Z k H];grind
def NW{t:Int->Bool}{n S zj:Nat}(hi:zj<S):(∀c∈Fl n S zj,Gh t c)↔∃ze:Nat->Nat,(∀k,k<=n->ze k<S)/\(∀k,k<=n->∀b,b<S->t (Dd n S k b)=decide (ze k=b))/\ze 0=zj:=by
 constructor;intro h;have U:∀a,a<=n->∃s,s<S/\∀k,k<S->t (Dd n S a k)=decide (s=k):=λa E=>by have O:a∈List.range (n+1):=zv.2 Ad;have H:Gh t (ER n S a):=h _ (yj _ (yk.2 ⟨a,O,yx ..⟩));have J:∀c∈BQ (ER n S a),Gh t c:=λc u=>h _ (yj _ (yk.2 ⟨a,O,yj _ u⟩));exact ZZ ((J8 (Eo n S a)).1 H) ((Hf (Eo n S a)).1 J)
 have V:t (Dd n S 0 zj)=true:=(Gl (Eo n S 0 zj)).1 (Ol.1 (h _ (yx ..)));refine⟨λa=>if E:a<=n then(U a E).choose else 0,λa E=>?_,λa E k aa=>?_,?_⟩;grind;grind;grind;rintro⟨ze,Z,T,V⟩c u;rcases xl.1 u with rfl|u;refine Ol.2 ((Gl (Eo ..)).2 ?_);rw[T 0 (zx _) zj hi];simp_all;obtain⟨a,E,u⟩:=yk.1 u;rw[zv]at E;obtain⟨H,J⟩:=AbE (Z a Ad) (T a Ad);rcases xl.1 u with rfl|u;exact(J8 (Eo n S a)).2 H;exact(Hf (Eo n S a)).2 J c u
def G8{l:List AZ}{p:Nat×Nat}:p∈Cc l↔p.1<l.length/\p.2<l.length/\Cw (opAt l p.1) (opAt l p.2)=true:=by grind[Cc,Prod.mk.injEq]
def OB{t:Int->Bool}{n:Nat}{σ:Nat->Nat}(U:∀a,a<n->σ a<n)(O:∀a,a<n->∀k,k<n->t (Cx n a k)=decide (σ a=k)){ps:List (Nat×Nat)}(V:∀p∈ps,p.1<n/\p.2<n):(∀c∈Gk n ps,Gh t c)↔∀p∈ps,p.1≠p.2->¬σ p.2<σ p.1:=by constructor;intro h p E H aa;obtain⟨J,T⟩:=V p E;have:=h [-Cx n p.1 (σ p.1),-Cx n p.2 (σ p.2)] (yk.2 ⟨p,E,by unfold EN;rw[zo H];exact yk.2 ⟨σ p.1,zv.2 (U _ J),zw.2 ⟨σ p.2,zv.2 aa,rfl⟩⟩⟩);rw[Om,ET (Dv ..),ET (Dv ..),O _ J _ (U _ J),O _ T _ (U _ T)]at this;simp_all;intro h c u;obtain⟨p,E,u⟩:=yk.1 u;obtain⟨J,T⟩:=V p E;unfold EN at u;by_cases H:p.1=p.2;rw[zq H]at u;cases u;rw[zo H]at u;obtain⟨a,Z,u⟩:=yk.1 u;obtain⟨b,hb,rfl⟩:=zw.1 u;rw[zv]at Z hb;rw[Om,ET (Dv ..),ET (Dv ..),O _ J _ Z,O _ T _ Ad];have:=h p E H;grind
def OP{zc:List Ba}{l:List AZ}{S:Nat}{t:Int->Bool}{σ ze:Nat->Nat}(H:∀a,a<l.length->σ a<l.length)(ab:∀a,a<l.length->∀k,k<l.length->t (Cx l.length a k)=decide (σ a=k))
 (U:∀k,k<=l.length->ze k<S)(T:∀k,k<=l.length->∀b,b<S->t (Dd l.length S k b)=decide (ze k=b))(aq:∀r∈zc,0<=r.ax/\r.ax<S):
 (∀c∈FL zc l S,Gh t c)↔∀i,i<l.length->((opAt l i).an≠-1->t (Er l.length i)=true)/\
  (t (Er l.length i)=true->Dq zc (opAt l i) (ze (σ i))=some ((ze (σ i+1):Nat):Int))/\(t (Er l.length i)=false->ze (σ i+1)=ze (σ i)):=by
 have ag:∀(x:AZ)(b:Int)(V:Int),Dq zc x b=some V->0<=V/\V<S:=λx b V h=>by
  unfold Dq DT at h
  cases e:zc.find? (λr=>r.st==b&&r.aq==x.aq)with
  |none=>rw[e]at h;cases h
  |some r=>
   rw[e]at h
   grind
 constructor
 intro h i hi
 have ac:∀c∈Od zc l.length S (opAt l i) i,Gh t c:=λc u=>h c (yk.2 ⟨i,zv.2 hi,u⟩)
 have ad:∀c∈Ic zc l.length S (opAt l i) i (σ i) (ze (σ i)),Gh t c:=λc u=>ac c (xk _ (yk.2 ⟨σ i,zv.2 (H i hi),yk.2 ⟨ze (σ i),zv.2 (U _ (aag (H i hi))),u⟩⟩))
 have ah:(opAt l i).an≠-1->t (Er l.length i)=true:=λaj=>by
  have:=ac [Er l.length i] (yp _ (by rw[zo aj];simp))
  grind[Gl,Ge,Ol]
 have aa:=ab i hi (σ i) (H i hi)
 have ae:=T (σ i) (aag (H i hi)) (ze (σ i)) (U _ (aag (H i hi)))
 rw[zt rfl]at aa ae
 refine⟨ah,λJ=>?_,λJ=>?_⟩
 have:=ad _ (yx ..)
 obtain⟨x,E,O⟩:=this
 rcases zz.1 E with E|E
 simp only[xl,adf,or_false]at E
 rcases E with rfl|rfl|rfl
 rw[ET (Dv ..),aa]at O;simp_all
 rw[ET (Ge ..),J]at O;simp_all
 grind[ET,Eo]
 cases e:Dq zc (opAt l i) (ze (σ i))with
 |none=>rw[e]at E;cases E
 |some V=>
  rw[e]at E
  simp only[zy]at E
  subst E
  have au:=ag _ _ _ e
  rw[Gl (Eo ..),T (σ i+1) (H i hi) _ Ad]at O
  have:=of_decide_eq_true O
  rw[this];grind
 have ak:(opAt l i).an=-1:=by
  simp_all
 have:=ad _ (yj _ (by rw[zq ak];exact zy.2 rfl))
 obtain⟨x,E,O⟩:=this
 simp only[xl,adf,or_false]at E
 rcases E with rfl|rfl|rfl|rfl
 rw[ET (Dv ..),aa]at O;simp_all
 rw[Gl (Ge ..),J]at O;simp_all
 rw[ET (Eo ..),ae]at O;simp_all
 rw[Gl (Eo ..),T (σ i+1) (H i hi) _ (U _ (aag (H i hi)))]at O
 simp_all
 intro h c u
 obtain⟨i,hi,u⟩:=yk.1 u
 rw[zv]at hi
 obtain⟨av,al,am⟩:=h i hi
 rcases zz.1 u with u|u
 by_cases e:(opAt l i).an=-1
 rw[zq e]at u;cases u
 rw[zo e]at u
 rw[zy.1 u]
 grind[Ol,Gl,Ge]
 obtain⟨k,af,u⟩:=yk.1 u
 obtain⟨b,hb,u⟩:=yk.1 u
 rw[zv]at af hb
 by_cases an:σ i=k
 by_cases ao:ze k=b
 subst an ao
 rcases xl.1 u with rfl|u
 cases J:t (Er l.length i)with
 |false=>exact⟨-Er l.length i,AG,(ET (Ge ..)).2 J⟩
 |true=>
  rw[al J]
  refine⟨Dd l.length S (σ i+1) (ze (σ i+1)),AG,(Gl (Eo ..)).2 ?_⟩
  rw[T (σ i+1) (H i hi) _ (U _ (H i hi))];simp
 by_cases e:(opAt l i).an=-1
 rw[zq e]at u
 rw[zy.1 u]
 cases J:t (Er l.length i)with
 |true=>exact⟨Er l.length i,AG,(Gl (Ge ..)).2 J⟩
 |false=>
  refine⟨Dd l.length S (σ i+1) (ze (σ i)),AG,(Gl (Eo ..)).2 ?_⟩
  rw[T (σ i+1) (H i hi) _ (U _ (aag (H i hi))),am J];simp
 simp_all
 have Z:Tt t (-Dd l.length S k b):=(ET (Eo ..)).2 (by rw[T k Ad b hb];simp_all)
 rcases xl.1 u with rfl|u
 exact⟨_,AG,Z⟩
 split at u
 rw[zy.1 u];exact⟨_,AG,Z⟩
 simp_all
 have Z:Tt t (-Cx l.length i k):=(ET (Dv ..)).2 (by rw[ab i hi k af];simp_all)
 rcases xl.1 u with rfl|u
 exact⟨_,AG,Z⟩
 split at u
 rw[zy.1 u];exact⟨_,AG,Z⟩
 simp_all
def Aba{zc:List Ba}{l:List AZ}{S zj:Nat}{t:Int->Bool}(hi:zj<S)(U:∀r∈zc,0<=r.ax/\r.ax<S):(∀c∈DM zc l S zj,Gh t c)↔∃σ ze,Ie zc l S zj t σ ze:=by have V:∀p∈Cc l,p.1<l.length/\p.2<l.length:=λp E=>⟨(G8.1 E).1,(G8.1 E).2.1⟩;unfold DM;constructor;intro h;have ab:∀c∈Fj l.length,Gh t c:=λc u=>h c (yp _ (yp _ (yp _ u)));have ac:∀c∈Gk l.length (Cc l),Gh t c:=λc u=>h c (yp _ (yp _ (xk _ u)));have ad:∀c∈Fl l.length S zj,Gh t c:=λc u=>h c (yp _ (xk _ u));have ae:∀c∈FL zc l S,Gh t c:=λc u=>h c (xk _ u);obtain⟨σ,H,J,af⟩:=NZ.1 ab;obtain⟨ze,Z,aa,ag⟩:=(NW hi).1 ad;have ah:=(OB H J V).1 ac;have O:=(OP H J Z aa U).1 ae;refine⟨σ,ze,H,J,af,λi j hi aj T ak=>?_,Z,aa,ag,λi hi=>(O i hi).1,λi hi=>(O i hi).2.1,λi hi=>(O i hi).2.2⟩;have:=ah (i,j) (G8.2 ⟨hi,aj,ak⟩) T;grind;rintro⟨σ,ze,h⟩c u;rcases zz.1 u with u|u;rcases zz.1 u with u|u;rcases zz.1 u with u|u;exact NZ.2 ⟨σ,h.lt,h.place,h.inj⟩ c u;refine(OB h.lt h.place V).2 (λp E T=>?_) c u;obtain⟨a,b,d⟩:=G8.1 E;have:=h.time p.1 p.2 a b T d;omega;exact(NW hi).2 ⟨ze,h.cF,h.state,h.ds⟩ c u;exact(OP h.lt h.place h.cF h.state U).2 (λi hi=>⟨h.ended i hi,h.move i hi,h.stay i hi⟩) c u
def B0(zc:List Ba)(l:List AZ):List Nat->Int->List (Nat×Int)->Option Int
 |_,s,[]=>some s
 |d,s,(i,r)::t=>if i<l.length/\i∉d then match DT zc s (opAt l i).aq with
  |some (u,rs)=>if rs=r/\((opAt l i).an=-1\/(opAt l i).aT=r)then B0 zc l (d++[i]) u t else none
  |none=>none
  else none
def II(zc:List Ba)(s k:Int):Int:=match DT zc s k with|some (_,rs)=>rs|none=>0
def Gg(zc:List Ba)(l:List AZ)(zj:Int):List (Nat×Int)->Int->List Nat->Option (List (Nat×Int))
 |out,_,[]=>some out
 |out,s,i::t=>match B0 zc l [] zj (out++[(i,if i<l.length then II zc s (opAt l i).aq else 0)])with
  |some s'=>Gg zc l zj (out++[(i,if i<l.length then II zc s (opAt l i).aq else 0)]) s' t
  |none=>none
def GI(zc:List Ba)(l:List AZ)(zj:Int)(u:List Nat):Option (List (Nat×Int)):=Gg zc l zj [] zj u
def CP(p:List (Nat×Int))(i:Nat):Int:=match p.findIdx? (λq=>q.1==i)with|some k=>(k:Nat)|none=>-1
def Ha(l:List AZ)(p:List (Nat×Int)):Bool:=(List.range l.length).all λi=>(decide ((opAt l i).an=-1)||decide (0<=CP p i))&&(List.range l.length).all λk=>!(Cw (opAt l i) (opAt l k)&&decide (0<=CP p k)&&(decide (CP p i<0)||decide (CP p k<CP p i)))
def PH(n:Nat)(last:List (List Nat)):List (List Nat):=last.flatMap λo=>((List.range n).filter λk=>!o.contains k).map λk=>o++[k]
def DO(n:Nat):Nat->List (List Nat)
 |0=>[[]]
 |k+1=>PH n (DO n k)
def Gp(n:Nat):List (List Nat):=(List.range (n+1)).flatMap (DO n)
def FH(zc:List Ba)(l:List AZ)(zj:Int)(u:List Nat):Option (List (Nat×Int)):=match GI zc l zj u with|some p=>if Ha l p then some p else none|none=>none
def Ij(zc:List Ba)(l:List AZ)(zj:Int):List (List (Nat×Int)):=(Gp l.length).filterMap (FH zc l zj)
theorem GU{n:Nat}:∀{k:Nat}{o:List Nat},o∈DO n k↔o.length=k/\o.Nodup/\∀x∈o,x<n
 |0,o=>by grind[DO,List.mem_singleton,List.length_eq_zero_iff]
 |k+1,o=>by
  unfold DO PH;rw[yk];constructor;rintro⟨a,ab,ac⟩;obtain⟨H,O,J⟩:=GU.1 ab;obtain⟨x,E,rfl⟩:=zw.1 ac;obtain⟨V,Z⟩:=ye.1 E;simp at V Z;refine⟨by simp[H],?_,λy u=>?_⟩;rw[y2];exact⟨O,AG,λy u z aa=>by simp at aa;subst aa;rintro rfl;exact Z u⟩;rcases zz.1 u with u|u;exact J y u;rw[zy.1 u];exact V;rintro⟨H,O,J⟩;have T:o≠[]:=by intro e;subst e;simp at H
  have e:=acl T;have U:=O;rw[<-e,y2]at U;refine⟨o.dropLast,GU.2 ⟨by simp[H],U.1,λx E=>J x ((List.dropLast_sublist o).subset E)⟩,zw.2 ⟨o.getLast T,?_,e⟩⟩;refine ye.2 ⟨zv.2 (J _ (List.getLast_mem T)),?_⟩;simp only[adj,ad4,aah];intro E;exact U.2.2 _ E _ (zy.2 rfl) rfl
def Mo{n:Nat}{o:List Nat}:o∈Gp n↔o.Nodup/\∀x∈o,x<n:=by unfold Gp;rw[yk];constructor;grind[GU];rintro⟨u,E⟩;refine⟨o.length,zv.2 ?_,GU.2 ⟨rfl,u,E⟩⟩;have:=yf u (λx H=>zv.2 (E x H));grind
def IA{zc:List Ba}{l:List AZ}:∀{p:List (Nat×Int)}{d:List Nat}{s:Int}{i:Nat}{r:Int},B0 zc l d s (p++[(i,r)])=match B0 zc l d s p with
  |some s'=>if i<l.length/\i∉d++p.map Prod.fst then match DT zc s' (opAt l i).aq with
   |some (u,rs)=>if rs=r/\((opAt l i).an=-1\/(opAt l i).aT=r)then some u else none
   |none=>none
   else none
  |none=>none
 |[],d,s,i,r=>by simp[B0]
 |(a,b)::p,d,s,i,r=>by
  rw[List.cons_append,B0,B0];by_cases h:a<l.length/\a∉d;rw[zq h,zq h];cases e:DT zc s (opAt l a).aq with
  |none=>rfl
  |some q=> obtain⟨u,rs⟩:=q;dsimp only;by_cases E:rs=b/\((opAt l a).an=-1\/(opAt l a).aT=b);rw[zq E,zq E,IA,xn,yy,List.singleton_append];grind
  grind
theorem Q0{zc:List Ba}{l:List AZ}{p q:List (Nat×Int)}{d:List Nat}{s s':Int}(h:B0 zc l d s (p++q)=some s'):∃u,B0 zc l d s p=some u:=by
 induction p generalizing d s with
 |nil=>exact⟨s,rfl⟩
 |cons a p E=> obtain⟨a,b⟩:=a;rw[List.cons_append,B0]at h;rw[B0];grind
def Iv{zc:List Ba}{l:List AZ}{p:List (Nat×Int)}{d:List Nat}{s s':Int}(h:B0 zc l d s p=some s'):(p.map Prod.fst).Nodup/\∀x∈p.map Prod.fst,x<l.length/\x∉d:=by
 induction p generalizing d s with
 |nil=>simp
 |cons a p u=> obtain⟨a,b⟩:=a;rw[B0]at h;grind
def Vb{zc:List Ba}{l:List AZ}{zj:Int}:∀{q:List (Nat×Int)}{out:List (Nat×Int)}{s s':Int},B0 zc l [] zj out=some s->B0 zc l [] zj (out++q)=some s'->Gg zc l zj out s (q.map Prod.fst)=some (out++q)
 |[],out,s,s',_,_=>by simp[Gg]
 |(i,r)::q,out,s,s',H,h=>by
  have e:out++(i,r)::q=(out++[(i,r)])++q:=AG;rw[e]at h;obtain⟨O,u⟩:=Q0 h;have E:=u;rw[IA,H]at E;dsimp only at E;by_cases g:i<l.length/\i∉[]++out.map Prod.fst;rw[zq g]at E;have J:(if i<l.length then II zc s (opAt l i).aq else 0)=r:=by rw[zq g.1];unfold II;grind
  rw[xn,Gg,J,u];dsimp only;rw[Vb u h,<-e];grind
def RA{zc:List Ba}{l:List AZ}{zj:Int}:∀{o:List Nat}{out p:List (Nat×Int)}{s:Int},B0 zc l [] zj out=some s->Gg zc l zj out s o=some p->(∃s',B0 zc l [] zj p=some s')/\p.map Prod.fst=out.map Prod.fst++o
 |[],out,p,s,u,h=>by grind[Gg]
 |i::o,out,p,s,u,h=>by rw[Gg]at h;split at h;rename_i s' E;obtain⟨H,J⟩:=RA E h;simp_all;simp_all
def N6{zc:List Ba}{l:List AZ}{zj:Int}{p:List (Nat×Int)}:p∈Ij zc l zj↔(∃s,B0 zc l [] zj p=some s)/\Ha l p=true:=by
 unfold Ij FH;rw[ac2];constructor;rintro⟨o,T,h⟩;split at h;rename_i q H;split at h;rename_i u;injection h with h;subst h;exact⟨(RA (s:=zj) rfl H).1,u⟩;simp_all;simp_all;rintro⟨⟨s,E⟩,u⟩;have J:GI zc l zj (p.map Prod.fst)=some p:=by unfold GI;have:=Vb (out:=[]) (q:=p) (s:=zj) (s':=s) (zc:=zc) (l:=l) (zj:=zj) rfl (by simp_all);simp_all
 refine⟨p.map Prod.fst,Mo.2 ⟨(Iv E).1,λx O=>((Iv E).2 x O).1⟩,?_⟩;rw[J];dsimp only;rw[zq u]
theorem Acr{p:List (Nat×Int)}{i:Nat}:0<=CP p i↔i∈p.map Prod.fst:=by grind[CP,List.findIdx?_eq_none_iff,List.findIdx?_eq_some_iff_getElem,Int.natCast_nonneg,List.getElem_mem]
def K7{p:List (Nat×Int)}(u:(p.map Prod.fst).Nodup){i k:Nat}(h:(p.map Prod.fst)[k]? =some i):CP p i=k:=by
 have E:k<p.length:=by have:=(zl.1 h).1;simp_all
 have hi:p[k].1=i:=by have:=(zl.1 h).2;simp_all
 unfold CP;have e:p.findIdx? (λq=>q.1==i)=some k:=by
  rw[yq];refine⟨E,by simp_all,λj J=>?_⟩;simp only[x3];intro e;have H:(p.map Prod.fst)[j]'(by grind)=(p.map Prod.fst)[k]'(by simp_all):=by simp_all
  have:=(xz u).1 H;omega
 rw[e]
def UO{l:List AZ}{p:List (Nat×Int)}:Ha l p=true↔∀i,i<l.length->((opAt l i).an≠-1->i∈p.map Prod.fst)/\∀k,k<l.length->Cw (opAt l i) (opAt l k)=true->k∈p.map Prod.fst->i∈p.map Prod.fst/\CP p i<=CP p k:=by unfold Ha;rw[yn];simp only[zv,z4,abg,z8,yn,ad4,Bool.and_eq_false_imp,Bool.or_eq_false_iff,aah];grind[Acr,opAt]
def Ff(n:Nat)(σ:Nat->Nat)(k:Nat):Nat:=((List.range n).find? λa=>σ a==k).getD 0
def FC{n:Nat}{σ:Nat->Nat}(O:∀a,a<n->σ a<n)(hi:∀a b,a<n->b<n->σ a=σ b->a=b){k:Nat}(T:k<n):Ff n σ k<n/\σ (Ff n σ k)=k:=by
 have E:∃a,a<n/\σ a=k:=by
  apply aad;intro U;have H:(k::(List.range n).map σ).Nodup:=by rw[xx];refine⟨λV=>?_,?_⟩;grind;refine x2.2 ((aba (n:=n)).imp_of_mem λ{a b}u hb J e=>J (hi a b (zv.1 u) (zv.1 hb) e))
  have:=yf (l₂:=List.range n) H (λx Z=>by grind);grind
 obtain⟨a,u,aa⟩:=E;unfold Ff;cases e:(List.range n).find? (λa=>σ a==k)with
 |none=> rw[y6]at e;have:=e a (zv.2 u);simp_all
 |some b=> have ab:=y0 e;have ac:=aa3 e;simp_all
def TN{n:Nat}{σ:Nat->Nat}(u:∀a,a<n->σ a<n)(hi:∀a b,a<n->b<n->σ a=σ b->a=b){a:Nat}(E:a<n):Ff n σ (σ a)=a:=by have:=FC u hi (u a E);grind
def IZ(zc:List Ba)(l:List AZ)(t:Int->Bool)(σ ze:Nat->Nat)(k:Nat):Option (Nat×Int):=if t (Er l.length (Ff l.length σ k))then some (Ff l.length σ k,II zc (ze k) (opAt l (Ff l.length σ k)).aq)else none
def Da(zc:List Ba)(l:List AZ)(t:Int->Bool)(σ ze:Nat->Nat)(k:Nat):List (Nat×Int):=(List.range k).filterMap (IZ zc l t σ ze)
def Gn(zc:List Ba)(l:List AZ)(t:Int->Bool)(σ ze:Nat->Nat):List (Nat×Int):=Da zc l t σ ze l.length
section
variable{zc:List Ba}{l:List AZ}{S zj:Nat}{t:Int->Bool}{σ ze:Nat->Nat}
theorem KG(k:Nat):Da zc l t σ ze (k+1)=Da zc l t σ ze k++(match IZ zc l t σ ze k with|some q=>[q]|none=>[]):=by unfold Da;rw[xi,List.filterMap_append];cases e:IZ zc l t σ ze k<;>simp[e]
theorem Lr(h:Ie zc l S zj t σ ze){k:Nat}(T:k<=l.length){a:Nat}:a∈(Da zc l t σ ze k).map Prod.fst↔a<l.length/\σ a<k/\t (Er l.length a)=true:=by rw[zw];constructor;rintro⟨q,u,rfl⟩;obtain⟨j,E,e⟩:=ac2.1 u;rw[zv]at E;obtain⟨U,V⟩:=FC h.lt h.inj (k:=j) Ad;grind[IZ];rintro⟨H,J,O⟩;refine⟨(a,II zc (ze (σ a)) (opAt l a).aq),ac2.2 ⟨σ a,zv.2 J,?_⟩,rfl⟩;unfold IZ;rw[TN h.lt h.inj H,zq O]
theorem OQ(h:Ie zc l S zj t σ ze):∀k,k<=l.length->B0 zc l [] zj (Da zc l t σ ze k)=some ((ze k:Nat):Int)
 |0,_=>by simp[Da,B0,h.ds]
 |k+1,U=>by
  have E:=OQ h k Ad;obtain⟨u,H⟩:=FC h.lt h.inj (k:=k) Ad;rw[KG];unfold IZ;cases J:t (Er l.length (Ff l.length σ k))with
  |false=> have:=h.stay _ u J;rw[H]at this;rw[zo AG];dsimp only;rw[yg,E,this]
  |true=> have O:=h.move _ u J;rw[H]at O;rw[zq rfl];dsimp only;rw[IA,E];dsimp only;rw[zq ⟨u,λT=>by rw[List.nil_append]at T;have:=((Lr h (k:=k) Ad).1 T).2.1;omega⟩];unfold Dq at O;unfold II;grind
theorem LY(h:Ie zc l S zj t σ ze):∀k,k<=l.length->((Da zc l t σ ze k).map Prod.fst).Pairwise λa b=>σ a<σ b
 |0,_=>by simp[Da]
 |k+1,u=>by have E:=LY h k Ad;obtain⟨H,J⟩:=FC h.lt h.inj (k:=k) Ad;rw[KG];grind[IZ,Lr]
theorem OG{a b:AZ}(h:Cw a b=true):a.an≠-1:=by grind[Cw]
theorem AeM(h:Ie zc l S zj t σ ze):Gn zc l t σ ze∈Ij zc l zj:=by
 have hrun:=OQ h l.length (zs _);have E:((Gn zc l t σ ze).map Prod.fst).Nodup:=(Iv hrun).1;have aa:((Gn zc l t σ ze).map Prod.fst).Pairwise λa b=>σ a<σ b:=LY h l.length (zs _);have H:∀{a:Nat},a∈(Gn zc l t σ ze).map Prod.fst↔a<l.length/\t (Er l.length a)=true:=λ{a}=>by rw[Gn,Lr h (zs _)];exact⟨λ⟨u,_,a3⟩=>⟨u,a3⟩,λ⟨u,a3⟩=>⟨u,h.lt _ u,a3⟩⟩
 refine N6.2 ⟨⟨_,hrun⟩,UO.2 λi hi=>⟨λe=>H.2 ⟨hi,h.ended i hi e⟩,λk T J U=>?_⟩⟩;have O:i∈(Gn zc l t σ ze).map Prod.fst:=H.2 ⟨hi,h.ended i hi (OG J)⟩;refine⟨O,?_⟩;obtain⟨x,V⟩:=z0 O;obtain⟨y,Z⟩:=z0 U;rw[K7 E V,K7 E Z];by_cases e:i=k;grind[List.getElem?_eq_some_iff,List.getElem_inj];have ab:=h.time i k hi T e J;grind[Nat.lt_or_ge,List.getElem?_eq_some_iff,List.pairwise_iff_getElem]
end
section
variable{zc:List Ba}{l:List AZ}{S zj:Nat}{p:List (Nat×Int)}
def Fh(l:List AZ)(p:List (Nat×Int)):List Nat:=p.map Prod.fst++(List.range l.length).filter λa=>!(p.map Prod.fst).contains a
def I7(zc:List Ba)(l:List AZ)(zj:Nat)(p:List (Nat×Int))(k:Nat):Nat:=((B0 zc l [] zj (p.take k)).getD 0).toNat
def Vw(zc:List Ba)(l:List AZ)(S zj:Nat)(p:List (Nat×Int))(x:Int):Bool:=if x.toNat<=l.length*l.length then decide ((Fh l p).idxOf ((x.toNat-1)/l.length)=(x.toNat-1)%l.length)else if x.toNat<=l.length*l.length+l.length then(p.map Prod.fst).contains (x.toNat-(l.length*l.length+1))else decide (I7 zc l zj p ((x.toNat-(l.length*l.length+l.length+1))/S)=(x.toNat-(l.length*l.length+l.length+1))%S)
theorem Se{a b n:Nat}(u:a<n)(hb:b<n):a*n+b+1<=n*n:=by have:(a+1)*n<=n*n:=acq n u;rw[adi]at this;omega
theorem UR{a b n:Nat}(hb:b<n):(a*n+b)/n=a/\(a*n+b)%n=b:=by rw[adk];refine⟨by rw[Nat.mul_add_div Ad,Nat.div_eq_of_lt hb,Nat.add_zero],by rw[Nat.mul_add_mod,Nat.mod_eq_of_lt hb]⟩
theorem Ail{a k:Nat}(E:a<l.length)(u:k<l.length):Vw zc l S zj p (Cx l.length a k)=decide ((Fh l p).idxOf a=k):=by have H:=Se E u;obtain⟨J,O⟩:=UR (a:=a) u;unfold Vw Cx;rw[Int.toNat_natCast,zq H,Nat.add_sub_cancel,J,O]
theorem YH{a:Nat}(u:a<l.length):Vw zc l S zj p (Er l.length a)=(p.map Prod.fst).contains a:=by unfold Vw Er;rw[Int.toNat_natCast,zo Ad,zq Ad];simp_all
theorem AiN{k b:Nat}(hb:b<S):Vw zc l S zj p (Dd l.length S k b)=decide (I7 zc l zj p k=b):=by obtain⟨u,E⟩:=UR (a:=k) hb;unfold Vw Dd;rw[Int.toNat_natCast,zo Ad,zo Ad];have e:l.length*l.length+l.length+k*S+b+1-(l.length*l.length+l.length+1)=k*S+b:=Ad;rw[e,u,E]
theorem AbS(J:(p.map Prod.fst).Nodup)(T:∀x∈p.map Prod.fst,x<l.length):(Fh l p).Nodup/\(Fh l p).length=l.length/\∀a,a<l.length->a∈Fh l p:=by
 have E:(Fh l p).Nodup:=by unfold Fh;rw[y2];refine⟨J,aba.filter _,λa O b hb=>?_⟩;rw[ye]at hb;grind
 have H:∀a,a<l.length->a∈Fh l p:=λa O=>by grind[Fh,List.mem_append_left,List.mem_append_right]
 refine⟨E,Nat.le_antisymm ?_ ?_,H⟩;have:=yf (l₂:=List.range l.length) E (λx u=>by rcases zz.1 u with u|u;grind;simp_all);simp_all;have:=yf (l₁:=List.range l.length) (l₂:=Fh l p) aba (λx u=>H x (zv.1 u));simp_all
theorem AhX{L:List Nat}(u:L.Nodup){k a:Nat}(h:L[k]? =some a):L.idxOf a=k:=by grind
theorem Rq(u:(Fh l p).Nodup){k a:Nat}(h:(p.map Prod.fst)[k]? =some a):(Fh l p).idxOf a=k:=by grind[AhX,Fh,List.getElem?_append_left,List.getElem?_eq_some_iff]
theorem Uk{a:Nat}(h:a∉p.map Prod.fst):p.length<=(Fh l p).idxOf a:=by grind[Fh]
theorem NB(H:∀r∈zc,0<=r.ax/\r.ax<S):∀{p:List (Nat×Int)}{d:List Nat}{s s':Int},0<=s->s<S->B0 zc l d s p=some s'->0<=s'/\s'<S
 |[],d,s,s',J,O,h=>by grind[B0]
 |(i,r)::p,d,s,s',J,O,h=>by
  rw[B0]at h;split at h;cases e:DT zc s (opAt l i).aq with
  |none=>rw[e]at h;cases h
  |some q=>
   obtain⟨u,rs⟩:=q;rw[e]at h;dsimp only at h;have E:0<=u/\u<S:=by grind[DT,Option.map_eq_some_iff,List.mem_of_find?_eq_some]
   split at h;exact NB H E.1 E.2 h;simp_all
  simp_all
theorem AcR(hi:zj<S)(af:∀r∈zc,0<=r.ax/\r.ax<S)(h:p∈Ij zc l zj):Ie zc l S zj (Vw zc l S zj p) (λa=>(Fh l p).idxOf a) (I7 zc l zj p):=by
 obtain⟨⟨s,ag⟩,J⟩:=N6.1 h;have J:=UO.1 J;obtain⟨U,ah⟩:=Iv ag;obtain⟨V,aj,ab⟩:=AbS U (λx O=>(ah x O).1);have ak:∀k,∃ac,B0 zc l [] zj (p.take k)=some ac:=λk=>by grind[B0,List.take_append_drop,Q0]
 have Z:∀k,B0 zc l [] zj (p.take k)=some ((I7 zc l zj p k:Nat):Int)/\I7 zc l zj p k<S:=λk=>by obtain⟨ac,aa⟩:=ak k;have:=NB af Ad Ad aa;grind[I7]
 have al:∀i,i∈p.map Prod.fst->∃k r,(p.map Prod.fst)[k]? =some i/\p.take (k+1)=p.take k++[(i,r)]/\k<p.length:=λi am=>by obtain⟨k,T⟩:=z0 am;grind[List.getElem?_eq_some_iff,List.getElem?_eq_getElem,Option.some.injEq,List.take_succ_eq_append_getElem]
 refine⟨λa E=>?_,λa E k T=>Ail E T,λa b E hb e=>?_,λi j hi an ay E=>?_,λk _=>(Z k).2,λk _ b hb=>AiN hb,?_,λi hi az=>?_,λi hi H=>?_,λi hi H=>?_⟩;rw[<-aj];grind;have ao:=List.idxOf_lt_length_of_mem (ab a E);have aq:=List.idxOf_lt_length_of_mem (ab b hb);have au:=List.getElem_idxOf ao;have av:=List.getElem_idxOf aq;rw[<-au,<-av];congr 1;have aw:=(J i hi).1 (OG E);obtain⟨x,O⟩:=z0 aw;show(Fh l p).idxOf i<(Fh l p).idxOf j;rw[Rq V O];by_cases ad:j∈p.map Prod.fst;obtain⟨y,ae⟩:=z0 ad;rw[Rq V ae];have:=((J i hi).2 j an E ad).2;rw[K7 U O,K7 U ae]at this;grind;grind[Uk,List.getElem?_eq_some_iff];grind[I7,B0];rw[YH hi];grind;rw[YH hi,adj,z8]at H;obtain⟨k,r,T,ax,aA⟩:=al i H;show Dq zc (opAt l i) (I7 zc l zj p ((Fh l p).idxOf i))=some ((I7 zc l zj p ((Fh l p).idxOf i+1):Nat):Int);rw[Rq V T];have u:=(Z (k+1)).1;rw[ax,IA,(Z k).1]at u;dsimp only at u;split at u;cases e:DT zc (I7 zc l zj p k) (opAt l i).aq with
 |none=>rw[e]at u;cases u
 |some q=> obtain⟨aB,rs⟩:=q;rw[e]at u;dsimp only at u;split at u;rename_i aC;unfold Dq;rw[e];grind;grind
 grind;rw[YH hi,adj,aah]at H;have aa:=Uk (l:=l) H;show I7 zc l zj p ((Fh l p).idxOf i+1)=I7 zc l zj p ((Fh l p).idxOf i);unfold I7;rw[z1 aa,z1 Ad]
end
structure Acd(N:Nat)(c:An):Prop where
 aj:c.Nodup
 eZ:∀x∈c,-x∉c
 aN:∀x∈c,x≠0/\-(N:Int)<=x/\x<=N
theorem LK{N:Nat}{c:An}(h:(c.map Int.natAbs).Nodup)(E:∀x∈c,x≠0/\x.natAbs<=N):Acd N c:=by
 have inj:∀x∈c,∀y∈c,x.natAbs=y.natAbs->x=y:=λx u y H e=>by
  obtain⟨i,hi⟩:=z0 u;obtain⟨j,J⟩:=z0 H;have U:(c.map Int.natAbs)[i]? =some x.natAbs:=by rw[yd,hi];rfl
  have V:(c.map Int.natAbs)[j]? =some x.natAbs:=by rw[yd,J,e];rfl
  grind[List.getElem?_eq_some_iff,List.getElem_inj]
 refine⟨?_,λx u O=>?_,λx u=>?_⟩;exact(x2.1 h).imp λT e=>T (by rw[e]);have:=inj x u _ O (by rw[Int.natAbs_neg]);have:=(E x u).1;omega;grind
theorem QQ{N:Nat}{vs:An}(u:∀x∈vs,0<x/\x<=N)(O:vs.Nodup):∀c∈BQ vs,Acd N c/\c.length<=2:=by intro c E;obtain⟨i,j,v,w,T,H,J,rfl⟩:=O2.1 E;have U:=u v (zm H);have V:=u w (zm J);grind[List.getElem?_eq_some_iff,List.getElem_inj,LK]
def GF{n:Nat}{f:Nat->Int}(u:∀a b,a<n->b<n->f a=f b->a=b):((List.range n).map f).Nodup:=x2.2 ((aba (n:=n)).imp_of_mem λ{a b}E hb H e=>H (u a b (zv.1 E) (zv.1 hb) e))
theorem PW{N:Nat}{vs:An}(u:∀x∈vs,0<x/\x<=N)(H:vs.Nodup):Acd N vs:=by refine⟨H,λx E h=>?_,λx E=>?_⟩;have:=u x E;have:=u _ h;omega;grind
def WN{n a b a' b':Nat}(hb:b<n)(u:b'<n)(h:a*n+b=a'*n+b'):a=a'/\b=b':=by grind[UR]
def Mh{n S a b:Nat}(u:a<n)(hb:b<n):Cx n a b<=(n*n:Nat)/\Cx n a b<=BJ n S:=by have:=Se u hb;grind[Cx,BJ]
def Oa{n S a:Nat}(u:a<n):(n*n:Nat)<Er n a/\Er n a<=(n*n+n:Nat)/\Er n a<=BJ n S:=by grind[Er,BJ]
def MM{n S a b:Nat}(u:a<=n)(hb:b<S):(n*n+n:Nat)<Dd n S a b/\Dd n S a b<=BJ n S:=by have:(a+1)*S<=(n+1)*S:=acq S Ad;rw[adi]at this;grind[Dd,BJ]
def UK{n a b a' b':Nat}(hb:b<n)(u:b'<n)(h:Cx n a b=Cx n a' b'):a=a'/\b=b':=WN hb u (by grind[Cx])
def AaD{n S a b a' b':Nat}(hb:b<S)(u:b'<S)(h:Dd n S a b=Dd n S a' b'):a=a'/\b=b':=WN hb u (by grind[Dd])
def JK{n:Nat}{f:Nat->Int}{x:Int}:x∈(List.range n).map f↔∃k,k<n/\f k=x:=AG
def Kv{zc:List Ba}{l:List AZ}{S zj:Nat}(hi:zj<S)(al:∀r∈zc,0<=r.ax/\r.ax<S):∀c∈DM zc l S zj,Acd (BJ l.length S) c/\c.length<=l.length+S+4:=by
 have ad:∀a,a<l.length->(∀x∈EA l.length a,0<x/\x<=BJ l.length S)/\(EA l.length a).Nodup:=λa J=>by refine⟨λx E=>?_,GF λi j hi T e=>(UK hi T e).2⟩;obtain⟨k,H,rfl⟩:=JK.1 E;exact⟨Dv ..,(Mh J H).2⟩
 have ae:∀k,k<l.length->(∀x∈Gu l.length k,0<x/\x<=BJ l.length S)/\(Gu l.length k).Nodup:=λk H=>by refine⟨λx E=>?_,GF λi j hi T e=>(UK H H e).1⟩;obtain⟨a,J,rfl⟩:=JK.1 E;exact⟨Dv ..,(Mh J H).2⟩
 have af:∀a,a<=l.length->(∀x∈ER l.length S a,0<x/\x<=BJ l.length S)/\(ER l.length S a).Nodup:=λa J=>by refine⟨λx E=>?_,GF λi j hi T e=>(AaD hi T e).2⟩;obtain⟨k,H,rfl⟩:=JK.1 E;exact⟨Eo ..,(MM J H).2⟩
 intro c u;unfold DM at u;rcases zz.1 u with u|u;rcases zz.1 u with u|u;rcases zz.1 u with u|u;rcases zz.1 u with u|u;obtain⟨a,J,u⟩:=yk.1 u;rw[zv]at J;obtain⟨O,U⟩:=ad a J;rcases xl.1 u with rfl|u;grind[PW,EA];grind[QQ];obtain⟨k,H,u⟩:=yk.1 u;rw[zv]at H;obtain⟨O,U⟩:=ae k H;grind[QQ];obtain⟨p,ag,u⟩:=yk.1 u;obtain⟨ah,aj,_⟩:=G8.1 ag;unfold EN at u;split at u;cases u;rename_i ak;obtain⟨a,J,u⟩:=yk.1 u;obtain⟨b,hb,rfl⟩:=zw.1 u;rw[zv]at J hb;have O:=Mh (S:=S) ah J;have U:=Mh (S:=S) aj (b:=b) Ad;have am:=Dv l.length p.1 a;have an:=Dv l.length p.2 b;have ao:Cx l.length p.1 a≠Cx l.length p.2 b:=λe=>ak (UK J Ad e).1;refine⟨LK ?_ ?_,AG⟩;grind;intro x E;simp at E;rcases E with rfl|rfl<;>omega;rcases xl.1 u with rfl|u;have O:=(MM (n:=l.length) (zx _) hi).2;grind[PW,Eo];obtain⟨a,J,u⟩:=yk.1 u;rw[zv]at J;obtain⟨O,U⟩:=af a Ad;rcases xl.1 u with rfl|u;grind[PW,ER];grind[QQ];obtain⟨i,V,u⟩:=yk.1 u;rw[zv]at V;have aq:=Oa (S:=S) V;have au:=Ge l.length i;rcases zz.1 u with u|u;grind[List.mem_singleton,PW];obtain⟨k,H,u⟩:=yk.1 u;obtain⟨b,hb,u⟩:=yk.1 u;rw[zv]at H hb;have av:=Mh (S:=S) V H;have aw:=Dv l.length i k;have ax:=MM (n:=l.length) (aag H) hb;have ab:∀b',b'<S->(l.length*l.length+l.length:Nat)<Dd l.length S (k+1) b'/\Dd l.length S (k+1) b'<=BJ l.length S/\Dd l.length S (k+1) b'≠Dd l.length S k b:=λb' Z=>⟨(MM H Z).1,(MM H Z).2,λe=>by have:=(AaD Z hb e).1;omega⟩;rcases xl.1 u with rfl|u;cases e:Dq zc (opAt l i) b with
 |none=> refine⟨LK ?_ ?_,AG⟩;simp;omega;intro x E;simp at E;rcases E with rfl|rfl|rfl<;>omega
 |some aa=>
  have ay:0<=aa/\aa<S:=by
   unfold Dq DT at e;cases ac:zc.find? (λr=>r.st==(b:Int)&&r.aq==(opAt l i).aq)with
   |none=>rw[ac]at e;cases e
   |some r=> rw[ac]at e;simp only[Option.map_some]at e;split at e;cases e;grind
  have O:=ab aa.toNat Ad;refine⟨LK ?_ ?_,AG⟩;simp;omega;intro x E;simp at E;rcases E with rfl|rfl|rfl|rfl<;>omega
 split at u;rw[zy.1 u];have O:=ab b hb;refine⟨LK ?_ ?_,AG⟩;simp;omega;intro x E;simp at E;rcases E with rfl|rfl|rfl|rfl<;>omega;simp_all
structure Dm(pl:Nat->Int)(zb:Nat)(ze:An):Prop where
 aj:ze.Nodup
 aN:∀u∈ze,1<=u/\u<=zb
 at_:∀(j:Nat)(u:Int),ze[j]? =some u->pl u.toNat=j
 no:∀u:Nat,1<=u->u<=zb->(u:Int)∉ze->pl u<0
structure C3(pl:Nat->Int)(zb:Nat)(ze:An)(i:Nat)(v:Int):Prop where
 lt:i<ze.length
 aj:(ze.set i v).Nodup
 aN:∀u∈ze.set i v,1<=u/\u<=zb
 at_:∀(j:Nat)(u:Int),(ze.set i v)[j]? =some u->u≠v->pl u.toNat=j
 no:∀u:Nat,1<=u->u<=zb->(u:Int)∉ze.set i v->pl u<0
def F6(pl:Nat->Int)(v:Nat)(x:Int):Nat->Int:=λu=>if u=v then x else pl u
theorem Fp(pl:Nat->Int)(v:Nat)(x:Int):F6 pl v x v=x:=by unfold F6;rw[zq rfl]
def Eb(pl:Nat->Int){v u:Nat}(x:Int)(h:u≠v):F6 pl v x u=pl u:=by unfold F6;rw[zo h]
section
variable{pl:Nat->Int}{zb:Nat}{ze:List Int}{i j:Nat}{v u:Int}
theorem Dm.len(h:Dm pl zb ze):ze.length<=zb:=by
 have E:∀x∈ze,x∈(List.range zb).map (λk=>((k+1:Nat):Int)):=λx H=>by obtain⟨J,O⟩:=h.aN x H;exact zw.2 ⟨(x-1).toNat,by rw[zv];omega,Ad⟩
 have:=yf h.aj E;simp_all
theorem C3.len(h:C3 pl zb ze i v):ze.length<=zb:=by
 have E:∀x∈ze.set i v,x∈(List.range zb).map (λk=>((k+1:Nat):Int)):=λx H=>by obtain⟨J,O⟩:=h.aN x H;exact zw.2 ⟨(x-1).toNat,by rw[zv];omega,Ad⟩
 have:=yf h.aj E;simp_all
theorem C3.self(h:C3 pl zb ze i v):(ze.set i v)[i]? =some v:=by rw[x4 h.lt]
theorem C3.mem(h:C3 pl zb ze i v):v∈ze.set i v:=zm h.self
theorem C3.dd(h:C3 pl zb ze i v):1<=v/\v<=zb:=h.aN v h.mem
theorem C3.other(h:C3 pl zb ze i v)(H:ze[j]? =some u)(J:j≠i):1<=u/\u<=zb/\u≠v:=by
 have e:(ze.set i v)[j]? =some u:=by rw[y3 Ad];exact H
 have E:=h.aN u (zm e);refine⟨E.1,E.2,?_⟩;rintro rfl;have O:=zl.1 e;have T:=zl.1 h.self;exact J ((xz h.aj).1 (O.2.trans T.2.symm))
theorem Dm.hole(h:Dm pl zb ze)(hi:ze[i]? =some v):C3 pl zb ze i v:=by
 have E:=(zl.1 hi).1;have e:ze.set i v=ze:=by have:=(zl.1 hi).2;rw[<-this,acn]
 exact⟨E,by rw[e];exact h.aj,by rw[e];exact h.aN,by rw[e];exactλj u H _=>h.at_ j u H,by rw[e];exact h.no⟩
theorem C3.fill(h:C3 pl zb ze i v):Dm (F6 pl v.toNat i) zb (ze.set i v):=by refine⟨h.aj,h.aN,λj u E=>?_,λu H J O=>?_⟩;by_cases e:u=v;subst e;rw[Fp];have T:=zl.1 E;have U:=zl.1 h.self;rw[(xz h.aj).1 (U.2.trans T.2.symm)];have H:=h.aN u (zm E);have J:=h.dd;rw[Eb _ _ Ad];exact h.at_ j u E e;have V:=h.dd;rw[Eb];exact h.no u H J O;rintro rfl;exact O (by rw[adu Ad];exact h.mem)
theorem SS(hi:i<ze.length)(E:ze[j]? =some u)(H:j≠i):((ze.set i u).set j v).Perm (ze.set i v):=by have J:=(zl.1 E).1;have O:=(zl.1 E).2;grind
theorem C3.move(h:C3 pl zb ze i v)(H:ze[j]? =some u)(T:j≠i):C3 (F6 pl u.toNat i) zb (ze.set i u) j v/\((ze.set i u).set j v).Perm (ze.set i v):=by
 have J:=SS (v:=v) h.lt H T;have ah:=(zl.1 H).1;obtain⟨u1,u2,aj⟩:=h.other H T;refine⟨⟨by simp_all,J.nodup_iff.2 h.aj,λx O=>h.aN x (J.mem_iff.1 O),λk x E O=>?_,λx Z aa O=>?_⟩,J⟩;have ak:=h.aN x (J.mem_iff.1 (zm E));by_cases e:k=j;simp_all;rw[y3 Ad]at E;by_cases ab:k=i;subst ab;rw[x4 h.lt]at E;cases E;rw[Fp];rw[y3 Ad]at E;have U:(ze.set i v)[k]? =some x:=by rw[y3 Ad];exact E
 have:=h.at_ k x U O;rw[Eb];omega;intro al;have ac:x=u:=Ad;subst ac;have ad:(ze.set i v)[j]? =some x:=by rw[y3 Ad];exact H
 have ae:=zl.1 U;have af:=zl.1 ad;exact e ((xz h.aj).1 (ae.2.trans af.2.symm));have V:(x:Int)∉ze.set i v:=λag=>O (J.mem_iff.2 ag);rw[Eb];exact h.no x Z aa V;rintro rfl;refine V (zm (i:=j) ?_);rw[y3 Ad,adu Ad];exact H
theorem Dm.put(h:Dm pl zb ze)(V:1<=v)(Z:v<=zb)(aa:v∉ze):C3 pl zb (ze++[v]) ze.length v:=by
 have e:(ze++[v]).set ze.length v=ze++[v]:=by rw[aaw _ _ (zs _),adn];rfl
 refine⟨AG,?_,?_,?_,?_⟩;rw[e,y2];exact⟨h.aj,AG,λa ab b hb=>by grind⟩;rw[e];intro u E;rcases zz.1 E with E|E;exact h.aN u E;simp_all;rw[e];intro j u H ac;rcases aab j ze.length with J|J;rw[yh J]at H;exact h.at_ j u H;grind;rw[e];intro u O T E;exact h.no u O T λU=>E (yp _ U)
theorem Dm.take{x:Int}(h:Dm pl zb ze){n:Nat}(an:ze.length=n+1)(aa:ze[0]? =some v)(T:ze[n]? =some x):Dm (F6 (F6 pl x.toNat 0) v.toNat (-1)) zb ((ze.set 0 x).take n)/\v∉(ze.set 0 x).take n/\∀u,u∈ze->u=v\/u∈(ze.set 0 x).take n:=by
 have ao:=h.aN v (zm aa);have aq:=h.aN x (zm T);have inj:∀{a b:Nat}{y:Int},ze[a]? =some y->ze[b]? =some y->a=b:=λ{a b y}ab hb=>by have ac:=zl.1 ab;have ad:=zl.1 hb;exact(xz h.aj).1 (ac.2.trans ad.2.symm)
 have get:∀(k:Nat)(y:Int),((ze.set 0 x).take n)[k]? =some y↔k<n/\((k=0/\y=x)\/(0<k/\ze[k]? =some y)):=λk y=>by rw[xb];grind
 have au:0<n->v≠x:=λav e=>by grind
 have U:v∉(ze.set 0 x).take n:=λae=>by grind[List.getElem?_of_mem]
 have af:∀u,u∈ze->u=v\/u∈(ze.set 0 x).take n:=λu J=>by obtain⟨k,E⟩:=z0 J;have aw:=(zl.1 E).1;by_cases e:k=0;grind;by_cases ag:k=n;subst ag;rw[T]at E;cases E;exact .inr (zm ((get 0 x).2 ⟨Ad,.inl ⟨rfl,rfl⟩⟩));exact .inr (zm ((get k u).2 ⟨Ad,.inr ⟨Ad,E⟩⟩))
 refine⟨⟨?_,λu J=>?_,λj u V=>?_,λu ah aj J=>?_⟩,U,af⟩;rw[List.Nodup,xo];intro a b ak al ax e;have ay:=zr ak;have am:=zr al;rw[<-e]at am;grind;obtain⟨k,E⟩:=z0 J;obtain⟨_,O⟩:=(get k u).1 E;rcases O with⟨_,rfl⟩|⟨_,O⟩;omega;exact h.aN u (zm O);obtain⟨az,H⟩:=(get j u).1 V;have aA:u≠v:=λe=>U (e▸zm V);have Z:1<=u:=by rcases H with⟨_,rfl⟩|⟨_,H⟩;omega;exact(h.aN u (zm H)).1
 rw[Eb _ _ Ad];rcases H with⟨rfl,rfl⟩|⟨aB,H⟩;rw[Fp];rfl;rw[Eb];exact h.at_ j u H;grind;by_cases e:u=v.toNat;grind[Fp];rw[Eb _ _ e];have Z:(u:Int)∉ze:=λae=>by grind
 rw[Eb];exact h.no u ah aj Z;grind
theorem Dm.has(h:Dm pl zb ze)(J:1<=v)(O:v<=zb):0<=pl v.toNat↔v∈ze:=by constructor;intro T;by_cases E:v∈ze;exact E;have:=h.no v.toNat Ad Ad (by rw[adu Ad];exact E);omega;intro E;obtain⟨j,H⟩:=z0 E;rw[h.at_ j v H];omega
end
