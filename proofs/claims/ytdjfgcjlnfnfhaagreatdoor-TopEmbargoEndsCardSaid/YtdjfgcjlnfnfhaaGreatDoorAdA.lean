/- ADDRESS: bytes, labels, hosts, ports, rows. (WITH run_drawN.) -/
import Derived.Test.YtdjfgcjlnfnfhaaGreatDoorLwEx
import Derived.Test.YtdjfgcjlnfnfhaaGreatDoorDtB
import Derived.Test.YtdjfgcjlnfnfhaaGreatDoorShelf
import Derived.Lib.AppendIntMem
import Derived.Shelf.Strings.Prefix
import Derived.Shelf.Strings.Split
import Derived.Lib.CountLaws
import Derived.Lib.Join
import Derived.Lib.IndexBytes
import Derived.Shelf.Strings.SlTrimAscii
set_option linter.unusedSimpArgs false
set_option linter.unusedVariables false
namespace Go.Lw
open Go.RowKit
set_option maxRecDepth 100000
section
variable {C:Ctx} {st:St} {Q:Exit→St→Prop} {K:St→Prop} {l:List Oper} {ops:Array Oper} {id:Nat} {b:Bool}
theorem isR (h:ewp C (.region id ops b) Q st):ewp C (.region id ops b) Q st:=h
theorem isO (h:cC C ops l st K):cC C ops l st K:=h
theorem isU (h:cL C ops l st K):cL C ops l st K:=h
end
theorem Wd {A B:Prop} (k:B) (h:FH B→A:=by
 intro h
 refine idp ?_
 first
  |(with_reducible first|(apply Ya;exact h.get)|(apply Yb;exact h.get)|(apply Yc;exact h.get)|(apply Yd;exact h.get)|(apply Ye;exact h.get)|(apply Yf;exact h.get)|(apply Yg;exact h.get)|(apply Yh;exact h.get)|(apply Yi;exact h.get)|(apply Yj;exact h.get)|(apply Yk;exact h.get)|(apply Yl;exact h.get)|(apply Ym;exact h.get)|(apply Yn;exact h.get)|(apply Yo;exact h.get)|exact Yp (h:=h.get)|(apply Yq;exact h.get)|(apply Yr;exact h.get)|(apply Ys;exact h.get))
  |((with_reducible apply isR);first|exact Zr hc (hk:=h.get)|exact Zd hc (hk:=h.get))):A:=h ⟨k⟩
theorem Wo {A B:Prop} (k:B) (h:FH B→A:=by
 intro h
 refine idp ?_
 first
  |((with_reducible apply isO);exact Zo hc (hk:=h.get))
  |((with_reducible apply isU);exact Zu hc (hk:=h.get))
  |((with_reducible apply isR);first|exact Ze hc (hk:=h.get)|exact Zf hc (hk:=h.get))):A:=h ⟨k⟩
theorem Wn {A B:Prop} (k:B) (h:FH B→A:=by
 intro h
 refine idp ?_
 first
  |((with_reducible apply isO);exact Zo hc (hk:=h.get))
  |((with_reducible apply isU);exact Zu hc (hk:=h.get))
  |((with_reducible apply isR);first|exact Ze hc (hk:=h.get)|exact Zn hc (hk:=h.get))):A:=h ⟨k⟩
theorem Wm {A B:Prop} (k:B) (h:FH B→A:=by
 intro h
 refine idp ?_
 first
  |((with_reducible apply isO);exact Zo hc (hk:=h.get))
  |((with_reducible apply isU);exact Zu hc (hk:=h.get))
  |((with_reducible apply isR);exact Ze hc (hk:=h.get))):A:=h ⟨k⟩
theorem Wc {C:Ctx} {Q:Exit→St→Prop} {st:St} {c:Operand} {x y:Code} {t:Bool} (ht:t=true→ewp C x Q st) (hf:t=false→ewp C y Q st) (hc:aA (ev true st c) (.d (.lit (.bool t))):=by simp;exact aA.mk):ewp C (.cond c x y) Q st:=gK hc ht hf
end Go.Lw
namespace Go.Proofs.YtdjfgcjlnfnfhaaGreatDoor
open Go.Lw
set_option maxRecDepth 100000
set_option maxHeartbeats 400000
abbrev Bs:=List UInt8
abbrev int (n:Int):D:= .lit (.int .i64 n)
abbrev tru (b:Bool):D:= .lit (.bool b)
abbrev u8 (c:UInt8):D:= .lit (.int .u8 (c.toNat:Int))
abbrev str (l:Bs):D:= .lit (.string (bs l))
def Aj (c:UInt8):Bool:=decide (65≤c.toNat)&&decide (c.toNat≤90)
def SM (c:UInt8):Bool:=decide (97≤c.toNat)&&decide (c.toNat≤122)
def jX (c:UInt8):Bool:=SM c||Aj c
def bE (c:UInt8):Bool:=decide (48≤c.toNat)&&decide (c.toNat≤57)
def aY (c:UInt8):Bool:=decide (c.toNat=9)||decide (c.toNat=10)||decide (c.toNat=12)||decide (c.toNat=13)||decide (c.toNat=32)
def low (c:UInt8):UInt8:=if Aj c then c+32 else c
def small (l:Bs):Bs:=l.map low
theorem KU (c:UInt8):(low c).toNat=if Aj c then c.toNat+32 else c.toNat:=by
 unfold low
 split
 ·rename_i h
  simp only[Aj,Bool.and_eq_true,decide_eq_true_eq]at h
  rw[UInt8.toNat_add]
  simp
  omega
 ·rfl
theorem MI (c:UInt8) (h:65≤(c.toNat:Int)∧(c.toNat:Int)≤90):((low c).toNat:Int)=c.toNat+97-65:=by
 rw[KU,if_pos (by simp[Aj];omega)]
 omega
def part (f:UInt8→UInt8) (l:Bs) (j:Nat):Bs:=(l.take j).map f++l.drop j
@[simp] theorem xQ (f:UInt8→UInt8) (l:Bs) (j:Nat) (hj:j≤l.length):(part f l j).length=l.length:=by simp[part];omega
theorem JE (f:UInt8→UInt8) (l:Bs) (j:Nat) (hj:j≤l.length):(part f l j)[j]?.getD 0=l[j]?.getD 0:=by
 unfold part
 rw[List.getElem?_append_right qH]
 simp[Nat.min_eq_left hj]
theorem Gc (f:UInt8→UInt8) (l:Bs) (j:Nat) (hj:j<l.length):(part f l j).set j (f (l[j]?.getD 0))=part f l (j+1):=by
 unfold part
 have e1:((l.take j).map f).length=j:=by simp;omega
 have e2:l[j]?.getD 0=l[j]:=by simp[hj]
 have e3:l.take (j+1)=l.take j++[l[j]]:=by rw[List.take_add_one];simp[hj]
 rw[List.set_append_right _ _ qD,e1,Nat.sub_self,List.drop_eq_getElem_cons hj,List.set_cons_zero,e2,e3,List.map_append,List.append_assoc]
 rfl
theorem KV (f:UInt8→UInt8) (l:Bs) (j:Nat) (hj:j<l.length) (hf:f (l[j]?.getD 0)=l[j]?.getD 0):part f l j=part f l (j+1):=by
 rw[←Gc f l j hj,hf,←JE f l j qD]
 have hl:j<(part f l j).length:=by rw[xQ f l j qD];exact hj
 simp[hl]
theorem cU (c:UInt8):aJ Tryz.prog 242 [u8 c] (tru (aY c)):=by
 refine aW Tryz.func242 rfl qC Tryz.ntmps242 _ rfl qE fun C hc=>?_
 repeat' (first|refine Wd ?_|(refine Wc ?_ ?_<;>intro hb<;>try simp at hb)|fail)
 (refine Zl hc (hr:=?_))
 refine bT ?_
 rw[Bool.eq_iff_iff];simp[aY];omega
theorem bP (l:Bs) (hm:l.length≤9223372036854775807):aJ Tryz.prog 65 [str l] (str (small l)):=by
 refine aW Tryz.func65 rfl qC Tryz.ntmps65 _ rfl qE fun C hc=>?_
 repeat' (first|refine Wd ?_|(refine Wc ?_ ?_<;>intro hb<;>try simp at hb)|fail)
 refine aN (fun x:Nat×Bs=>⟨[(3,.os 7 x.2.length),(8,.os 7 x.2.length),(9,.d (int l.length)),(10,.d (int x.1))],[(7,.own 5 1 (false,[.lit (.int .u8 0)]) (x.2.map aZ))]⟩) (fun x=>x.1≤l.length∧x.2=part low l x.1) (fun x=>l.length-x.1) (0,l) ⟨qE,by simp[part]⟩ (aG [3,8,9,10] [7] qA qA) ?_
 rintro⟨j,m⟩ ⟨hj,hm1⟩
 simp only at hj hm1⊢
 have hml:m.length=l.length:=by rw[hm1];exact xQ low l j hj
 have ha:m[j]?.getD 0=l[j]?.getD 0:=by rw[hm1];exact JE low l j hj
 repeat' (first|refine Wd ?_|(refine Wc ?_ ?_<;>intro hb<;>try simp at hb)|fail)
 ·refine⟨(j+1,m.set j (low (l[j]?.getD 0))),⟨qH,?_⟩,qH,aC [3,8,9,10] [7] qA qA (by rw[ha]at hb;simp[ha,MI _ hb])⟩
  simp only
  rw[hm1,Gc low l j qD]
 ·refine⟨(j+1,m),⟨qH,?_⟩,qH,aC [3,8,9,10] [7] qA qA qE⟩
  simp only
  rw[hm1]
  refine KV low l j qD ?_
  rw[ha]at hb
  unfold low Aj
  rw[if_neg qH]
 ·(refine Zl hc (hr:=?_))
  simp[hm1,part,small,List.take_of_length_le (show l.length≤j by omega),List.drop_of_length_le (show l.length≤j by omega)]
def skip (p:UInt8→Bool) (l:Bs) (i:Nat):Nat:=i+((l.drop i).takeWhile p).length
theorem rC (p:UInt8→Bool) (l:Bs) (i:Nat) (h:i<l.length):skip p l i=if p (l[i]?.getD 0)then skip p l (i+1)else i:=by
 unfold skip
 rw[List.drop_eq_getElem_cons h,List.takeWhile_cons]
 have:l[i]?.getD 0=l[i]:=by simp[h]
 rw[this]
 split
 ·simp;omega
 ·simp
theorem Ak (p:UInt8→Bool) (l:Bs) (i:Nat) (h:l.length≤i):skip p l i=i:=by
 unfold skip
 rw[List.drop_of_length_le h];simp
theorem bO (p:UInt8→Bool) (l:Bs) (i:Nat):i≤skip p l i:=by unfold skip;omega
theorem cI (p:UInt8→Bool) (l:Bs) (i:Nat) (h:i≤l.length):skip p l i≤l.length:=by
 unfold skip
 have:=(List.takeWhile_prefix (l:=l.drop i) p).length_le
 simp at this;omega
end Go.Proofs.YtdjfgcjlnfnfhaaGreatDoor
namespace Go.Proofs.YtdjfgcjlnfnfhaaGreatDoor
open Go.Lw Go.RowKit
set_option maxRecDepth 100000
def IsS (n:Nat) (d:D):Prop:= ∃l:List UInt8,d= .lit (.string (bs l))∧l.length≤n
theorem Il: ∀(k u:Nat),u<10^(k+1)→(Lib.decDigits u).length≤k+1
 |0,u,h=>by
  rw[Lib.decDigits,dif_pos qD]
  simp
 |k+1,u,h=>by
  rw[Lib.decDigits]
  split
  ·simp
  ·have:=Il k (u/10) (by rw[Nat.pow_succ]at h;omega)
   simp only[List.length_append,List.length_cons,List.length_nil]
   omega
theorem MJ (n:Int) (h0: -1000000000000<n) (h1:n<1000000000000):aV Tryz.prog 231 [.lit (.int .i64 n)] (IsS 13):=by
 refine⟨.lit (.string (bs (Lib.itoa n))),⟨_,rfl,?_⟩,iA [.int .i64 n] qC fun w hs=>?_⟩
 ·unfold Lib.itoa
  split
  ·have:=Il 11 n.natAbs qD
   simp only[List.length_cons]
   omega
  ·have:=Il 11 n.toNat qD
   omega
 ·obtain⟨t,fr,hcell⟩:=hs.2.2.2 5 (of_decide_eq_true qC) qC
  have hg:Tryz.prog.globalNamed "internal/strconv.uint64pow10" =some 5:=by kernel_rfl
  have ht:Lib.TabIs Tryz.prog w "internal/strconv.uint64pow10" .u64 Lib.pow10Tab:=by
   unfold Lib.TabIs World.var?
   rw[hg]
   simp only[Option.bind_some,hcell]
   rfl
  refine(Tryz.strconv_Itoa n qD qD w ht).mono fun e w' ⟨he,k,os,hw⟩=>⟨?_,?_⟩
  ·rw[he];rfl
  ·rw[hw];exact Lib.below_grow _ w (Nat.le_refl _) k os
theorem MK (l:List UInt8) (n:Int) (h0:0≤n) (h1:n≤1000) (hl:l.length≤1):aV Tryz.prog 251 [.lit (.string (bs l)),.lit (.int .i64 n)] (IsS n.toNat):=by
 obtain⟨c,rfl⟩: ∃c:Nat,n=c:=⟨n.toNat,qD⟩
 refine⟨.lit (.string (bs (Lib.repeatL l c))),⟨_,rfl,?_⟩,iA [.string (bs l),.int .i64 (c:Int)] qC fun w hs=>?_⟩
 ·rw[Lib.repeatL_length]
  have:=Nat.mul_le_mul_left c hl
  simp only[Int.toNat_natCast]
  omega
 ·have hm:=Nat.mul_le_mul_right c hl
  refine(Tryz.strings_Repeat (bs l) c w qD (by simp only[O6];omega)).mono fun e w' ⟨he,hw⟩=>⟨?_,hw⟩
  rw[he];rfl
theorem kW (n m:Int) (hn: -1000000000000<n∧n<1000000000000) (hm:0≤m∧m≤20):aV Tryz.prog 171 [.lit (.int .i64 n),.lit (.int .i64 m)] (IsS 33):=by
 refine bI Tryz.func171 rfl qC Tryz.ntmps171 _ rfl qE ?_
 repeat' (first|refine Va ?_|refine aB (ht:=fun hb=>?_) (hf:=fun hb=>?_)|refine Vb ?_|refine Vl (hG:=?_)|(refine Ve (hf:=MJ _ qD qD) (hk:=?_);rintro _ ⟨l,rfl,hl⟩)|(refine Ve (hf:=MK _ _ qD qD qE) (hk:=?_);rintro _ ⟨m,rfl,hm⟩))
 refine⟨_,rfl,?_⟩
 rw[List.length_append]
 split at hm<;>omega
abbrev ML:D:= .sl 7 fun i=>([[str [77,111,110]],[str [84,117,101]],[str [87,101,100]],[str [84,104,117]],[str [70,114,105]],[str [83,97,116]],[str [83,117,110]]]:List (List D))[i]?.getD [str []]
abbrev SN:D:= .sl 12 fun i=>([[str [74,97,110]],[str [70,101,98]],[str [77,97,114]],[str [65,112,114]],[str [77,97,121]],[str [74,117,110]],[str [74,117,108]],[str [65,117,103]],[str [83,101,112]],[str [79,99,116]],[str [78,111,118]],[str [68,101,99]]]:List (List D))[i]?.getD [str []]
theorem Gd:aJ Tryz.prog 347 [] ML:=by
 refine aW Tryz.func347 rfl qC Tryz.ntmps347 _ rfl qE fun C hc=>?_
 repeat' (first|refine Wd ?_|(refine Wc ?_ ?_<;>intro hb<;>try simp at hb)|fail)
 (refine Zl hc (hr:=?_))
 simp
theorem Cf:aJ Tryz.prog 329 [] SN:=by
 refine aW Tryz.func329 rfl qC Tryz.ntmps329 _ rfl qE fun C hc=>?_
 repeat' (first|refine Wd ?_|(refine Wc ?_ ?_<;>intro hb<;>try simp at hb)|fail)
 (refine Zl hc (hr:=?_))
 simp
def wkL:List (List UInt8):=[[77,111,110],[84,117,101],[87,101,100],[84,104,117],[70,114,105],[83,97,116],[83,117,110]]
theorem Dq:aJ Tryz.prog 347 [] (.sl 7 fun i=>[str (wkL[i]?.getD [])]):=by
 have h:=Gd
 have e:ML= .sl 7 fun i=>[str (wkL[i]?.getD [])]:=by
  unfold ML wkL
  congr 1
  funext i
  match i with
  |0|1|2|3|4|5|6=>rfl
  |n+7=>rfl
 rwa [e]at h
theorem PA (i:Nat):(wkL[i]?.getD []).length≤3:=by
 unfold wkL
 match i with
 |0|1|2|3|4|5|6=>decide
 |n+7=>exact Nat.zero_le _
def mnL:List (List UInt8):=[[74,97,110],[70,101,98],[77,97,114],[65,112,114],[77,97,121],[74,117,110],[74,117,108],[65,117,103],[83,101,112],[79,99,116],[78,111,118],[68,101,99]]
theorem Im:aJ Tryz.prog 329 [] (.sl 12 fun i=>[str (mnL[i]?.getD [])]):=by
 have h:=Cf
 have e:SN= .sl 12 fun i=>[str (mnL[i]?.getD [])]:=by
  unfold SN mnL
  congr 1
  funext i
  match i with
  |0|1|2|3|4|5|6|7|8|9|10|11=>rfl
  |n+12=>rfl
 rwa [e]at h
theorem PB (i:Nat):(mnL[i]?.getD []).length≤3:=by
 unfold mnL
 match i with
 |0|1|2|3|4|5|6|7|8|9|10|11=>decide
 |n+12=>exact Nat.zero_le _
theorem Al (t:Nat) (ht:t≤253402300799):aV Tryz.prog 301 [.lit (.int .i64 (t:Int))] (IsS 400):=by
 refine bI Tryz.func301 rfl qC Tryz.ntmps301 _ rfl qE ?_
 have h2:=Dq
 have h3:=Im
 repeat' (first|refine Va ?_|(refine Ve (hf:=FI t ht) (hk:=?_);rintro _ ⟨y,m,x,h,i,s,rfl,by1,by2,by3,by4,by5,by6⟩)|refine Vn ?_|fail)
 obtain⟨_,⟨l1,rfl,z1⟩,h4⟩:=kW x 2 qD qD
 obtain⟨_,⟨l2,rfl,z2⟩,h5⟩:=kW y 4 qD qD
 obtain⟨_,⟨l3,rfl,z3⟩,h6⟩:=kW h 2 qD qD
 obtain⟨_,⟨l4,rfl,z4⟩,h7⟩:=kW i 2 qD qD
 obtain⟨_,⟨l5,rfl,z5⟩,h8⟩:=kW s 2 qD qD
 have w1:=PA (((t:Int)/86400+3).tmod 7).toNat
 have w2:=PB (m.toNat-1)
 have w3:0≤((t:Int)/86400+3).tmod 7∧((t:Int)/86400+3).tmod 7<7:=by
  rw[show((t:Int)/86400+3).tmod 7=(((t/86400+3)%7:Nat):Int)from rfl]
  omega
 refine aQ (by
  intro r C hc hh
  refine bA (aG [0,3] [3] qA qA) ?_
  (apply Pd 42 hc;(focus(refine Pr 1 hc (hk:=?_);refine Pr 2 hc (hk:=?_);refine Pr 3 hc (hk:=?_);refine Pr 4 hc (hk:=?_);refine Pr 8 hc (hk:=?_);refine Pr 9 hc (hk:=?_);refine Pr 14 hc (hk:=?_);refine Pr 15 hc (hk:=?_);refine Pr 16 hc (hk:=?_);refine Pr 21 hc (hk:=?_);refine Pr 22 hc (hk:=?_);refine Pr 26 hc (hk:=?_);refine Pr 27 hc (hk:=?_);refine Pr 31 hc (hk:=?_);refine Pr 32 hc (hk:=?_);refine Pr 36 hc (hk:=?_);refine Pr 37 hc (hk:=?_);refine Pc 0 hc (hf:=qP) (hk:=?_);refine Pr 5 hc (hk:=?_);refine Pr 6 hc (hk:=?_);refine Pr 7 hc (hk:=?_);refine Pc 10 hc (hf:=qP) (hk:=?_);refine Pr 11 hc (hk:=?_);refine Pr 12 hc (hk:=?_);refine Pc 13 hc (hf:=qP) (hk:=?_);refine Pr 17 hc (hk:=?_);refine Pr 18 hc (hk:=?_);refine Pr 19 hc (hk:=?_);refine Pr 20 hc (hk:=?_);refine Pc 23 hc (hf:=qP) (hk:=?_);refine Pr 24 hc (hk:=?_);refine Pr 25 hc (hk:=?_);refine Pc 28 hc (hf:=qP) (hk:=?_);refine Pr 29 hc (hk:=?_);refine Pr 30 hc (hk:=?_);refine Pc 33 hc (hf:=qP) (hk:=?_);refine Pr 34 hc (hk:=?_);refine Pr 35 hc (hk:=?_);refine Pc 38 hc (hf:=qP) (hk:=?_);refine Pr 39 hc (hk:=?_);refine Pr 40 hc (hk:=?_);refine Pr 41 hc (hk:=?_);refine Pz (hk:=?_);exact aG [2] [] Qg Qg)))
  exact hh.get) ?_
 repeat' (first|refine Va ?_|refine Vl (hG:=?_)|fail)
 refine⟨_,rfl,?_⟩
 simp only[List.length_append,List.length_cons,List.length_nil]
 omega
theorem dJ (n:Int):aJ Tryz.prog 58 [.lit (.int .i64 n)] (.lit (.bool (decide (0≤n∧n≤253402300799)))):=by
 refine aW Tryz.func58 rfl qC Tryz.ntmps58 _ rfl qE fun C hc=>?_
 repeat' (first|refine Wd ?_|(refine Wc ?_ ?_<;>intro hb<;>try simp at hb)|refine Wo ?_|fail)
 (refine Zl hc (hr:=?_))
 simp
theorem Ge (n:Int):aV Tryz.prog 230 [.lit (.int .i64 n)] (fun d=> ∃(l:List UInt8) (f:Int),d= .tup [str l,.lit (.int .i64 f)]∧l.length≤400):=by
 refine bI Tryz.func230 rfl qC Tryz.ntmps230 _ rfl qE ?_
 have h1:=dJ n
 by_cases hn:0≤n∧n≤253402300799
 ·obtain⟨t,rfl⟩: ∃t:Nat,n=t:=⟨n.toNat,qD⟩
  repeat' (first|refine Va ?_|refine aB (ht:=fun hb=>?_) (hf:=fun hb=>?_)|refine Vc (hf:=h1) (h:=?_)|(refine Ve (hf:=Al t qD) (hk:=?_);rintro _ ⟨l,rfl,hl⟩)|refine Vb ?_|refine Vl (hG:=?_)|fail)
  ·exact⟨[],_,rfl,qE⟩
  ·exact⟨l,_,rfl,hl⟩
 ·repeat' (first|refine Va ?_|refine aB (ht:=fun hb=>?_) (hf:=fun hb=>?_)|refine Vc (hf:=h1) (h:=?_)|refine Vb ?_|refine Vl (hG:=?_)|fail)
  ·exact⟨[],_,rfl,qE⟩
  ·simp at hb
   omega
end Go.Proofs.YtdjfgcjlnfnfhaaGreatDoor
namespace Go.Proofs.YtdjfgcjlnfnfhaaGreatDoor
open Go.Lw
set_option maxRecDepth 100000
theorem aS (s p:Bs):aJ Tryz.prog 248 [str s,str p] (tru (p.isPrefixOf s)):=
 dL [.string (bs s),.string (bs p)] qC fun w _=>Tryz.strings_HasPrefix (bs s) (bs p) w
theorem bZ (s:Bs) (c:UInt8):aJ Tryz.prog 34 [str s,u8 c] (int (Lib.indexByte s c)):=
 dL [.string (bs s),.int .u8 (c.toNat:Int)] qC fun w _=>by
  have h:=Tryz.strings_IndexByte (bs s) (c.toNat:Int) w
  simpa using h
theorem rD (l:Bs) (c:UInt8):Lib.indexByte l c<0↔l.contains c=false:=by
 induction l with
 |nil=>simp[Lib.indexByte]
 |cons b l ih=>
  have hg:=Lib.indexByte_ge l c
  simp only[Lib.indexByte]
  by_cases hb:b=c
  ·subst hb;simp
  ·have hb': ¬c=b:=fun e=>hb e.symm
   simp only[beq_iff_eq,hb,if_false,List.contains_cons,Bool.or_eq_false_iff,beq_eq_false_iff_ne,ne_eq,hb',not_false_eq_true,true_and]
   rw[←ih]
   split<;>omega
end Go.Proofs.YtdjfgcjlnfnfhaaGreatDoor
namespace Go.Proofs.YtdjfgcjlnfnfhaaGreatDoor
open Go.Lw Go.RowKit
set_option maxRecDepth 100000
set_option maxHeartbeats 1000000
abbrev cE (L:List Bs):D:= .sl L.length fun i=>(L.map fun x=>[str x])[i]?.getD [str []]
@[simp] theorem MM (o:Option Bs):(Option.map (fun x=>[str x]) o).getD [.lit (.string (bs []))]=[str (o.getD [])]:=by cases o<;>rfl
def tT (L:List Bs) (s:Bs) (j:Nat):Int:=if j<L.length then(if s=L[j]?.getD []then(j:Int)else tT L s (j+1))else-1
termination_by L.length-j
theorem Gf (L:List Bs) (s:Bs) (j:Nat):0≤tT L s j↔s∈L.drop j:=by
 rw[tT]
 split
 ·rename_i h
  rw[List.drop_eq_getElem_cons h,List.getElem?_eq_getElem h,Option.getD_some]
  split
  ·rename_i hs
   exact⟨fun _=>List.mem_cons.2 (.inl hs),fun _=>by omega⟩
  ·rename_i hs
   rw[Gf L s (j+1),List.mem_cons]
   exact⟨.inr,fun h=>h.resolve_left hs⟩
 ·rename_i h
  rw[List.drop_of_length_le qD]
  simp
termination_by L.length-j
theorem rF (L:List Bs) (s:Bs) (hm:L.length≤200000):aJ Tryz.prog 88 [cE L,str s] (int (tT L s 0)):=by
 refine aW Tryz.func88 rfl qC Tryz.ntmps88 _ rfl qE fun C hc=>?_
 repeat' (first|refine Wd ?_|(refine Wc ?_ ?_<;>intro hb<;>try simp at hb)|fail)
 refine aN (fun j:Nat=>⟨[(0,.d (cE L)),(1,.d (str s)),(7,.d (int L.length)),(8,.d (int j))],[]⟩) (fun j=>j≤L.length∧tT L s 0=tT L s j) (fun j=>L.length-j) 0 qE (aG [0,1,7,8] [] qA qA) ?_
 rintro j ⟨h1,h2⟩
 have h3:tT L s j=if j<L.length then(if s=L[j]?.getD []then(j:Int)else tT L s (j+1))else-1:=by rw[tT]
 repeat' (first|refine Wd ?_|(refine Wc ?_ ?_<;>intro hb<;>try simp at hb)|refine Wn ?_|fail)
 ·rw[h2,h3,if_pos qN,if_pos hb]
  (refine Zl hc (hr:=?_))
  simp
 ·exact⟨j+1,⟨qD,by rw[h2,h3,if_pos qN,if_neg hb]⟩,qD,aC [0,1,7,8] [] qA qA qE⟩
 ·rw[h2,h3,if_neg qD]
  (refine Zl hc (hr:=?_))
  simp
theorem iN (L:List Bs) (s:Bs) (hm:L.length≤200000):aJ Tryz.prog 37 [cE L,str s] (tru (decide (s∈L))):=by
 refine aW Tryz.func37 rfl qC Tryz.ntmps37 _ rfl qE fun C hc=>?_
 repeat' (first|refine Wd ?_|(refine Wc ?_ ?_<;>intro hb<;>try simp at hb)|refine Zw hc (hf:=by exact rF L s hm) (hk:=?_)|refine Zq hc (hf:=by exact rF L s hm) (hk:=?_)|refine Wn ?_|fail)
 (refine Zl hc (hr:=?_))
 refine bT ?_
 have:=Gf L s 0
 rw[Bool.eq_iff_iff];simpa using this
theorem KW {w:World} {ok:Nat→Prop} {L:List Bs} {v:Value} (h:RdD w ok (cE L) v):
 ∃A cap,v= .slice A L.length cap∧L.length≤cap∧(0<L.length→ ∃b off,A=some ⟨b,off,none⟩∧ok b∧ ∀(j:Nat) x,(L.map bs)[j]?=some x→w.cell? ⟨b,off+j,none⟩=some (.string x)):=by
 generalize hd:cE L=d at h
 cases h with
 |sl n f A cap size b off g hc hm hA hl hg h=>
  obtain⟨rfl,rfl⟩:=D.sl.inj hd
  refine⟨A,cap,rfl,hc,fun h0=>⟨b,off,(hA h0).1,(hA h0).2,fun j x hx=>?_⟩⟩
  have hj:j<L.length:=by have:=(List.getElem?_eq_some_iff.1 hx).1;simpa using this
  have hs:size=1:=by rw[←hl j hj];simp[hj]
  subst hs
  have h1:=hg j 0 hj qD
  have h2:=h j 0 (str (L[j]?.getD [])) hj qE
  rw[List.getElem?_map,List.getElem?_eq_getElem hj]at hx
  rw[List.getElem?_eq_getElem hj]at h2
  have h3:g j 0= .string x:=by
   generalize g j 0=y at h2
   cases h2
   cases hx
   rfl
  rw[h3]at h1
  simpa using h1
 |_=>cases hd
theorem tU (L:List Bs) (s:Bs) (hL:L.length≤200000) (hlen:(Lib.join L s).length≤140737488355328):aJ Tryz.prog 142 [cE L,str s] (str (Lib.join L s)):=by
 refine⟨qC,fun ok w vs hk hs ha=>?_⟩
 obtain⟨hn,hr⟩:=ha
 obtain⟨v0,e0,r0⟩:=hr 0 _ rfl
 obtain⟨v1,e1,r1⟩:=hr 1 _ rfl
 have hv1:v1= .string (bs s):=by cases r1;rfl
 subst hv1
 obtain⟨A,cap,rfl,hcap,hb⟩:=KW r0
 have hvs:vs= #[.slice A L.length cap,.string (bs s)]:=by
  apply Array.ext'
  apply List.ext_getElem?
  intro k
  match k with
  |0=>simpa using e0
  |1=>simpa using e1
  |k+2=>
   rw[Array.getElem?_toList,Array.getElem?_eq_none (by rw[hn];simp)]
   simp
 subst hvs
 rcases Nat.eq_zero_or_pos L.length with h0|h0
 ·obtain rfl:=List.length_eq_zero_iff.1 h0
  exact(Tryz.strings_Join_none A cap (bs s) w).mono fun e w' ⟨he,hw⟩=>⟨_,he,hw▸Below.refl _ _,.lit _⟩
 ·obtain⟨b,off,rfl,hob,hc⟩:=hb h0
  have e1:(L.map bs).map (·.data.toList)=L:=by rw[List.map_map];exact List.map_id'' (fun _=>rfl) L
  have h:=Tryz.strings_Join b off cap (L.map bs) (bs s) w hc (hk b hob) qH (by simpa using hcap) (by rw[e1];exact hlen)
  rw[e1,List.length_map]at h
  exact h.mono fun e w' ⟨he,hw⟩=>⟨_,he,hw,.lit _⟩
theorem sJ (c:UInt8): ∀(k:Nat) (s:Bs),(Lib.splitK [c] 0 k s).length≤k+1∧((Lib.splitK [c] 0 k s).map fun x=>x.length+1).sum≤s.length+1:=by
 intro k
 induction k with
 |zero=>intro s;simp[Lib.splitK]
 |succ k ih=>
  intro s
  unfold Lib.splitK
  split
  ·simp
  ·rename_i h
   have h1:=Lib.index_ge s [c]
   have h2:=Lib.index_room s [c]
   have h3:Lib.index s [c]≠ -1:=fun e=>h (by rw[e];rfl)
   have h4:=h2 qD
   obtain⟨i,hi⟩: ∃i:Nat,Lib.index s [c]=i:=⟨(Lib.index s [c]).toNat,qD⟩
   rw[hi]at h4⊢
   have h5:=ih (s.drop (i+1))
   simp only[Int.toNat_natCast,Nat.add_zero,List.length_cons,List.length_nil,Nat.zero_add,List.map_cons,List.sum_cons,List.length_take,List.length_drop]at h4 h5⊢
   omega
theorem mL (c:UInt8) (s:Bs):(Lib.splitK [c] 0 (Lib.count s [c]) s).length=Lib.count s [c]+1:=by
 generalize hn:s.length=n
 induction n using Nat.strongRecOn generalizing s with
 |_ n ih=>
  have h1:=Lib.index_ge s [c]
  by_cases h:Lib.index s [c]= -1
  ·rw[Lib.count_miss h];rfl
  ·obtain⟨i,hi⟩: ∃i:Nat,Lib.index s [c]=i:=⟨(Lib.index s [c]).toNat,qD⟩
   have h2:=Lib.index_room s [c] qD
   simp only[List.length_cons,List.length_nil]at h2
   rw[Lib.count_hit qE hi,Nat.add_comm 1,Lib.splitK,if_neg (by rw[hi];simp),List.length_cons,hi]
   have:=ih (s.drop (i+1)).length qH (s.drop (i+1)) rfl
   simp only[Int.toNat_natCast,List.length_cons,List.length_nil,Nat.zero_add]
   rw[this]
theorem mM (s:Bs) (c:UInt8) (hs:s.length<4294967281):aJ Tryz.prog 118 [str s,str [c]] (cE (Lib.split s [c])):=by
 refine⟨qC,fun ok w vs hk hstd ha=>?_⟩
 have h0:kS w ok ([Value.string (bs s),Value.string (bs [c])].map D.lit) vs:=ha
 have hvs:vs= #[.string (bs s),.string (bs [c])]:=rA h0
 subst hvs
 obtain⟨m,hm⟩:=hstd.2.1 0 3 .i64 qC qC
 have h:=Tryz.strings_Split (bs s) (bs [c]) m w Qx hm qE
 have hcnt:Lib.countB (bs s) (bs [c])+1=(Lib.split s [c]).length:=(mL c s).symm
 have hB:Lib.splitB (bs [c]) 0 (Lib.countB (bs s) (bs [c])) (bs s)=(Lib.split s [c]).map bs:=by
  have e:=Lib.splitB_data (bs [c]) 0 (Lib.countB (bs s) (bs [c])) (bs s)
  have e2:(Lib.split s [c]).map bs=((Lib.splitB (bs [c]) 0 (Lib.countB (bs s) (bs [c])) (bs s)).map (·.data.toList)).map bs:=congrArg (List.map bs) e.symm
  rw[e2,List.map_map]
  exact(List.map_id'' (fun _=>rfl) _).symm
 rw[hcnt,hB]at h
 have hle:=(sJ c (Lib.count s [c]) s).1
 have hcl:=Lib.count_le s [c]
 have hsz: ∀o:Obj,w.heap.size<(w.alloc o).heap.size:=fun o=>by unfold World.alloc;simp only[Array.size_push];omega
 refine h.mono fun e w' ⟨he,hw⟩=>⟨_,he,?_,?_⟩
 ·subst hw;exact(Below.refl _ _).alloc (Nat.le_refl _) _
 ·subst hw
  refine .sl (Lib.split s [c]).length _ _ (Lib.split s [c]).length 1 w.heap.size 0 (fun i _=> .string (bs ((Lib.split s [c])[i]?.getD []))) (Nat.le_refl _) (by rw[←hcnt];show Lib.count s [c]+1≤maxLen;unfold maxLen;omega) (fun _=>⟨rfl,.inr ⟨Nat.le_refl _,hsz _⟩⟩) (fun i hi=>by simp[hi]) (fun i k hi hk=>?_) (fun i k d hi hd=>?_)
  ·obtain rfl:k=0:=by omega
   rw[World.cell?_alloc_new]
   simp[hi]
  ·cases k with
   |zero=>
    rw[List.getElem?_map,List.getElem?_eq_getElem hi]at hd
    rw[List.getElem?_eq_getElem hi]
    cases hd
    exact .lit _
   |succ k=>
    rw[List.getElem?_map,List.getElem?_eq_getElem hi]at hd
    simp at hd
def rN (L:List Bs) (k:Nat):Nat:=((L.take k).map fun x=>x.length+1).sum
theorem vV (L:List Bs) (k:Nat) (h:k<L.length):rN L (k+1)=rN L k+(L[k]?.getD []).length+1:=by
 unfold rN
 rw[List.take_add_one,List.getElem?_eq_getElem h,List.map_append,List.sum_append]
 simp only[Option.toList_some,List.map_cons,List.map_nil,List.sum_cons,List.sum_nil,Option.getD_some]
 omega
theorem PC (L:List Bs) (n:Nat) (h:(L.map fun x=>x.length+1).sum≤n) (k:Nat) (hk:k<L.length):rN L k+(L[k]?.getD []).length+1≤n:=by
 rw[←vV L k hk]
 unfold rN
 have e:((L.take (k+1)).map fun x=>x.length+1).sum+((L.drop (k+1)).map fun x=>x.length+1).sum=(L.map fun x=>x.length+1).sum:=by
  rw[←List.sum_append,←List.map_append,List.take_append_drop]
 omega
theorem nM (s:Bs) (c:UInt8) (k:Nat) (hk:k<(Lib.split s [c]).length):rN (Lib.split s [c]) k+((Lib.split s [c])[k]?.getD []).length≤s.length:=by
 have:=PC (Lib.split s [c]) (s.length+1) (sJ c _ s).2 k hk
 omega
theorem fG (s:Bs) (c:UInt8):(Lib.split s [c]).length≤s.length+2:=by
 have h1:=(sJ c (Lib.count s [c]) s).1
 have h2:=Lib.count_le s [c]
 have:(Lib.split s [c]).length≤Lib.count s [c]+1:=h1
 omega
end Go.Proofs.YtdjfgcjlnfnfhaaGreatDoor
namespace Go.Proofs.YtdjfgcjlnfnfhaaGreatDoor
open Go.Lw
set_option maxRecDepth 100000
set_option maxHeartbeats 1000000
def bR (c:UInt8):Bool:=bE c||(decide (97≤c.toNat)&&decide (c.toNat≤102))||(decide (65≤c.toNat)&&decide (c.toNat≤70))
def MN:Bs:=[34,35,60,62,92,94,123,124,125,96]
def oM (c:UInt8):Bool:=decide (c.toNat<33)||decide (126<c.toNat)||MN.contains c
def a7 (w:Bs):Bs→Nat×Bool
 |[]=>(0,true)
 |c::r=>if w.contains c=true then(0,true)else if oM c=true then(0,false)
  else if c=37 then match r with
   |h::k::r2=>if bR h=true∧bR k=true then((a7 w r2).1+3,(a7 w r2).2)else(0,false)
   |_=>(0,false)
  else((a7 w r).1+1,(a7 w r).2)
theorem j9 (w:Bs): ∀s:Bs,(a7 w s).1≤s.length
 |[]=>by simp[a7]
 |c::r=>by
  rw[a7.eq_def]
  simp only
  split
  ·simp
  ·split
   ·simp
   ·split
    ·match r with
     |[]=>simp
     |[h]=>simp
     |h::k::r2=>
      simp only
      split
      ·have:=j9 w r2;simp;omega
      ·simp
    ·have:=j9 w r;simp;omega
theorem Am {w w2:Bs} (hw: ∀c,w2.contains c=true→w.contains c=true∨oM c=true) {r:Bs} (hr:r=[]∨ ∃c r',r=c::r'∧w2.contains c=true):
 ∀p:Bs,a7 w p=(p.length,true)→a7 w2 (p++r)=(p.length,true)
 |[],_=>by
  rcases hr with rfl|⟨c,r',rfl,hc⟩
  ·rfl
  ·rw[List.nil_append,a7.eq_def]
   simp only
   rw[if_pos hc];rfl
 |c::p,h=>by
  rw[a7.eq_def]at h
  simp only at h
  by_cases h1:w.contains c=true
  ·rw[if_pos h1]at h;simp at h
  rw[if_neg h1]at h
  by_cases h2:oM c=true
  ·rw[if_pos h2]at h;simp at h
  rw[if_neg h2]at h
  have h3: ¬w2.contains c=true:=fun e=>(hw c e).elim h1 h2
  rw[List.cons_append,a7.eq_def]
  simp only
  rw[if_neg h3,if_neg h2]
  by_cases h4:c=37
  ·rw[if_pos h4]at h⊢
   match p,h with
   |[],h=>simp at h
   |[a],h=>simp at h
   |a::b::p2,h=>
    simp only[List.cons_append]at h⊢
    by_cases h5:bR a=true∧bR b=true
    ·rw[if_pos h5]at h⊢
     have e1:=congrArg Prod.fst h
     have e2:=congrArg Prod.snd h
     simp only[List.length_cons]at e1 e2
     have ih:=Am hw hr p2 (Prod.ext qI e2)
     rw[ih];rfl
    ·rw[if_neg h5]at h;simp at h
  ·rw[if_neg h4]at h⊢
   have e1:=congrArg Prod.fst h
   have e2:=congrArg Prod.snd h
   simp only[List.length_cons]at e1 e2
   have ih:=Am hw hr p (Prod.ext qI e2)
   rw[ih];rfl
theorem mN {w w2:Bs} (hw: ∀c,w.contains c=true→w2.contains c=true∨oM c=true):
 ∀(s:Bs) (n:Nat),a7 w2 s=(n,true)→a7 w (s.take n)=(n,true)∧(s.drop n=[]∨ ∃c r',s.drop n=c::r'∧w2.contains c=true)
 |[],n,h=>by
  cases h
  exact⟨rfl,.inl rfl⟩
 |c::r,n,h=>by
  rw[a7.eq_def]at h
  simp only at h
  by_cases h1:w2.contains c=true
  ·rw[if_pos h1]at h
   cases h
   exact⟨rfl,.inr ⟨c,r,rfl,h1⟩⟩
  rw[if_neg h1]at h
  by_cases h2:oM c=true
  ·rw[if_pos h2]at h;cases h
  rw[if_neg h2]at h
  have h3: ¬w.contains c=true:=fun e=>(hw c e).elim h1 h2
  by_cases h4:c=37
  ·rw[if_pos h4]at h
   match r,h with
   |[],h=>cases h
   |[a],h=>cases h
   |a::b::r2,h=>
    simp only at h
    by_cases h5:bR a=true∧bR b=true
    ·rw[if_pos h5]at h
     have e1:=congrArg Prod.fst h
     have e2:=congrArg Prod.snd h
     simp only at e1 e2
     obtain⟨i1,i2⟩:=mN hw r2 (a7 w2 r2).1 (Prod.ext rfl e2)
     subst e1
     refine⟨?_,by simpa using i2⟩
     rw[List.take_succ_cons,List.take_succ_cons,List.take_succ_cons,a7.eq_def]
     simp only
     rw[if_neg h3,if_neg h2,if_pos h4,if_pos h5,i1]
    ·rw[if_neg h5]at h;cases h
  ·rw[if_neg h4]at h
   have e1:=congrArg Prod.fst h
   have e2:=congrArg Prod.snd h
   simp only at e1 e2
   obtain⟨i1,i2⟩:=mN hw r (a7 w2 r).1 (Prod.ext rfl e2)
   subst e1
   refine⟨?_,by simpa using i2⟩
   rw[List.take_succ_cons,a7.eq_def]
   simp only
   rw[if_neg h3,if_neg h2,if_neg h4,i1]
def Gg (c:UInt8):Bool:=jX c||bE c||decide (c.toNat=45)
def oG (s:Bs):Bool:=decide (1≤s.length)&&decide (s.length≤63)&&decide ((s[0]?.getD 0).toNat≠45)&&decide ((s[s.length-1]?.getD 0).toNat≠45)&&s.all Gg
def e7 (s:Bs):Bool:=decide (s.length≤253)&&(Lib.split s [46]).all oG
def bW (c:UInt8):Bool:=jX c||bE c||decide (c.toNat=45)||decide (c.toNat=46)
theorem tV: ∀{l:Bs} {c:UInt8} {i:Nat},Lib.indexByte l c=i→l[i]?=some c∧ ∀x∈l.take i,x≠c
 |[],c,i,h=>by simp[Lib.indexByte]at h
 |b::l,c,i,h=>by
  have hge:=Lib.indexByte_ge l c
  simp only[Lib.indexByte]at h
  split at h
  ·rename_i hb
   obtain rfl:i=0:=by omega
   simp only[beq_iff_eq]at hb
   exact⟨by rw[hb];rfl,fun x hx=>by simp at hx⟩
  ·rename_i hb
   split at h
   ·omega
   ·rename_i hn
    simp at hn
    obtain⟨j,rfl⟩: ∃j,i=j+1:=⟨i-1,qD⟩
    obtain⟨h1,h2⟩:=tV (l:=l) (c:=c) (i:=j) qD
    refine⟨h1,fun x hx=>?_⟩
    rw[List.take_succ_cons]at hx
    cases hx with
    |head=>exact fun e=>hb (by rw[e];simp)
    |tail _ hx=>exact h2 x hx
theorem Dr (c0:UInt8) (p:UInt8→Bool): ∀(k:Nat) (s:Bs),(∀x∈Lib.splitK [c0] 0 k s,x.all p=true)→s.all (fun c=>p c||decide (c=c0))=true:=by
 intro k
 induction k with
 |zero=>
  intro s h
  have:=h s (by simp[Lib.splitK])
  rw[List.all_eq_true]at this⊢
  intro c hc
  simp[this c hc]
 |succ k ih=>
  intro s h
  rw[Lib.splitK]at h
  by_cases hi:(Lib.index s [c0]== -1)=true
  ·rw[if_pos hi]at h
   have:=h s qE
   rw[List.all_eq_true]at this⊢
   intro c hc
   simp[this c hc]
  ·rw[if_neg hi]at h
   have hge:=Lib.index_ge s [c0]
   have hne:Lib.index s [c0]≠ -1:=fun e=>hi (by rw[e];rfl)
   obtain⟨i,he⟩: ∃i:Nat,Lib.index s [c0]=i:=⟨(Lib.index s [c0]).toNat,qD⟩
   rw[he]at h
   simp only[Int.toNat_natCast,Nat.add_zero,List.length_cons,List.length_nil,Nat.zero_add]at h
   have h1:=h (s.take i) qE
   have h2:=ih (s.drop (i+1)) (fun x hx=>h x (List.mem_cons_of_mem _ hx))
   have hat:s[i]?=some c0:=(tV (by rw[←Lib.index_one];exact he)).1
   have hlt:=(List.getElem?_eq_some_iff.1 hat).1
   rw[←List.take_append_drop i s,List.drop_eq_getElem_cons hlt,List.all_append,List.all_cons]
   rw[List.getElem?_eq_getElem hlt]at hat
   rw[Option.some.inj hat,h2]
   rw[List.all_eq_true]at h1
   simp only[Bool.and_true,decide_true,Bool.or_true]
   rw[List.all_eq_true]
   intro c hc
   simp[h1 c hc]
theorem Io {s:Bs} (h:e7 s=true):s.all bW=true:=by
 simp only[e7,Bool.and_eq_true,decide_eq_true_eq,List.all_eq_true]at h
 have h1:=Dr 46 Gg (Lib.count s [46]) s (fun x hx=>by
  have:=h.2 x hx
  simp only[oG,Bool.and_eq_true]at this
  exact this.2)
 rw[List.all_eq_true]at h1⊢
 intro c hc
 have:=h1 c hc
 simp only[Bool.or_eq_true,Gg,decide_eq_true_eq]at this
 simp only[bW,Bool.or_eq_true,decide_eq_true_eq]
 rcases this with h|h
 ·exact .inl h
 ·exact .inr (by rw[h];rfl)
def mO (s:Bs):Nat:=if 1≤s.length∧s.length≤5∧s.all bE=true then(if(s.foldl (fun n c=>10*n+(c.toNat-48)) 0)≤65535 then s.foldl (fun n c=>10*n+(c.toNat-48)) 0 else 0)else 0
theorem Gh {s:Bs} (h:mO s≠0):1≤s.length∧s.all bE=true:=by
 unfold mO at h
 split at h
 ·rename_i hc;exact⟨hc.1,hc.2.2⟩
 ·exact absurd rfl h
structure Adr where
 scheme:Bs
 host:Bs
 port:Bs
 path:Bs
 query:Bs
 eI:Bool
 dH:Bs
 fK:Bool
abbrev Adr.zero:Adr:=⟨[],[],[],[],[],false,[],false⟩
def eV (a:Adr):Bs:=if a.eI=true then 63::a.query else[]
def mP (a:Adr):Bs:=if a.fK=true then 35::a.dH else[]
def eK (a:Adr):Bs:=if a.port=[]then[]else 58::a.port
def gU (a:Adr):Bs:=a.path++eV a++mP a
def dF (a:Adr):Bs:=a.scheme++[58,47,47]++a.host++eK a++gU a
def isRow (w s:Bs):Prop:=a7 w s=(s.length,true)
instance (w s:Bs):Decidable (isRow w s):=by unfold isRow;infer_instance
def xR (r:Bs) (p:Nat):Except Nat (Bs×Bool):=match r with
 |35::r1=>if(a7 [] r1).2=true then .ok (r1.take (a7 [] r1).1,true)else .error (p+1+(a7 [] r1).1)
 |_=> .ok ([],false)
def vW (r:Bs) (p:Nat):Except Nat (Bs×Bool×Bs×Bool):=match r with
 |63::r1=>if(a7 [35] r1).2=true then(xR (r1.drop (a7 [35] r1).1) (p+1+(a7 [35] r1).1)).map fun f=>(r1.take (a7 [35] r1).1,true,f)else .error (p+1+(a7 [35] r1).1)
 |_=>(xR r p).map fun f=>([],false,f)
def Gi (r:Bs) (p:Nat):Except Nat (Bs×Bs×Bool×Bs×Bool):=
 if(a7 [63,35] r).2=true then(vW (r.drop (a7 [63,35] r).1) (p+(a7 [63,35] r).1)).map fun x=>(r.take (a7 [63,35] r).1,x)else .error (p+(a7 [63,35] r).1)
def jT:Bs:=[104,116,116,112,58,47,47]
def gC:Bs:=[104,116,116,112,115,58,47,47]
def cG:Bs→Bs→Nat
 |a::w,b::t=>if low b=a then cG w t+1 else 0
 |_,_=>0
theorem vX: ∀w t:Bs,cG w t≤w.length
 |[],t=>by simp[cG]
 |a::w,[]=>by simp[cG]
 |a::w,b::t=>by
  have:=vX w t
  simp only[cG]
  split<;>simp<;>omega
theorem pB: ∀(w t:Bs),cG w t=w.length→small (t.take w.length)=w
 |[],t,h=>by simp[small]
 |a::w,[],h=>by simp[cG]at h
 |a::w,b::t,h=>by
  simp only[cG]at h
  split at h
  ·rename_i hb
   simp only[List.length_cons]at h⊢
   rw[List.take_succ_cons]
   have:=pB w t qD
   simp only[small,List.map_cons]at this⊢
   rw[hb,this]
  ·simp at h
def gV (t:Bs):Except Nat (Bs×Nat):=
 if cG jT t=7 then .ok (t.take 4,7)else if cG gC t=8 then .ok (t.take 5,8)else .error (max (cG jT t) (cG gC t))
def okS (s:Bs):Prop:=small s=[104,116,116,112]∨small s=[104,116,116,112,115]
instance (s:Bs):Decidable (okS s):=by unfold okS;infer_instance
def Ds (r:Bs):Prop:=r=[]∨ ∃c r',r=c::r'∧([47,63,35]:Bs).contains c=true
instance (r:Bs):Decidable (Ds r):=match r with
 |[]=> .isTrue (.inl rfl)
 |c::r'=>if h:([47,63,35]:Bs).contains c=true then .isTrue (.inr ⟨c,r',rfl,h⟩)else .isFalse (by
   rintro(e|⟨c',r2,e,hc⟩)
   ·cases e
   ·cases e;exact h hc)
def An (r:Bs) (p:Nat):Except Nat (Bs×Bs×Bs×Nat):=
 if e7 (r.takeWhile bW)=true then
  match r.drop (r.takeWhile bW).length with
  |58::q=>if mO (q.takeWhile bE)=0 then .error (p+(r.takeWhile bW).length+1)
   else if Ds (q.drop (q.takeWhile bE).length)then .ok (r.takeWhile bW,q.takeWhile bE,q.drop (q.takeWhile bE).length,p+(r.takeWhile bW).length+1+(q.takeWhile bE).length)
   else .error (p+(r.takeWhile bW).length+1+(q.takeWhile bE).length)
  |q=>if Ds q then .ok (r.takeWhile bW,[],q,p+(r.takeWhile bW).length)else .error (p+(r.takeWhile bW).length)
 else .error p
structure SO (a:Adr):Prop where
 sch:okS a.scheme
 host:e7 a.host=true
 port:a.port=[]∨mO a.port≠0
 Xi:a.path=[]∨a.path[0]?=some 47
 path:isRow [63] a.path
 query:isRow [] a.query
 dH:isRow [] a.dH
 eI:a.query≠[]→a.eI=true
 fK:a.dH≠[]→a.fK=true
def Ao (t:Bs):Except Nat Adr:=
 match gV t with
 | .error n=> .error n
 | .ok (s,n)=>match An (t.drop n) n with
   | .error k=> .error k
   | .ok (h,p,r,k)=>match Gi r k with
     | .error k=> .error k
     | .ok (pa,q,hq,f,hf)=> .ok ⟨s,h,p,pa,q,hq,f,hf⟩
theorem Ap {r:Bs} {p:Nat} {f:Bs} {hf:Bool} (hr:r=[]∨ ∃c r',r=c::r'∧([35]:Bs).contains c=true) (h:xR r p= .ok (f,hf)):isRow [] f∧(f≠[]→hf=true)∧(if hf=true then 35::f else[])=r:=by
 rcases hr with rfl|⟨c,r',rfl,hc⟩
 ·cases h
  exact⟨rfl,fun e=>absurd rfl e,rfl⟩
 ·obtain rfl:c=35:=by simpa using hc
  simp only[xR]at h
  split at h
  ·rename_i h2
   cases h
   obtain⟨i1,i2⟩:=mN (w:=[]) (w2:=[]) (fun c hc=> .inl hc) r' (a7 [] r').1 (Prod.ext rfl h2)
   have hle:=j9 [] r'
   have hd:r'.drop (a7 [] r').1=[]:=i2.resolve_right (by rintro⟨c,r2,_,hc⟩;cases hc)
   have ht:r'.take (a7 [] r').1=r':=by
    have:=List.take_append_drop (a7 [] r').1 r'
    rwa [hd,List.append_nil]at this
   refine⟨?_,fun _=>rfl,by rw[if_pos rfl,ht]⟩
   unfold isRow
   rw[i1,List.length_take,Nat.min_eq_left hle]
  ·cases h
theorem Gj {r:Bs} {p:Nat} {q:Bs} {hq:Bool} {f:Bs} {hf:Bool} (hr:r=[]∨ ∃c r',r=c::r'∧([63,35]:Bs).contains c=true) (h:vW r p= .ok (q,hq,f,hf)):
 isRow [] q∧(q≠[]→hq=true)∧isRow [] f∧(f≠[]→hf=true)∧(if hq=true then 63::q else[])++(if hf=true then 35::f else[])=r:=by
 unfold vW at h
 split at h
 ·rename_i r1
  split at h
  ·rename_i h2
   obtain⟨i1,i2⟩:=mN (w:=[]) (w2:=[35]) (fun c hc=>by cases hc) r1 (a7 [35] r1).1 (Prod.ext rfl h2)
   have hle:=j9 [35] r1
   cases hfp:xR (r1.drop (a7 [35] r1).1) (p+1+(a7 [35] r1).1)with
   |error k=>rw[hfp]at h;cases h
   |ok x=>
    obtain⟨f',hf'⟩:=x
    rw[hfp]at h
    cases h
    obtain⟨j1,j2,j3⟩:=Ap i2 hfp
    refine⟨?_,fun _=>rfl,j1,j2,?_⟩
    ·unfold isRow
     rw[i1,List.length_take,Nat.min_eq_left hle]
    ·rw[if_pos rfl,j3,List.cons_append,List.take_append_drop]
  ·cases h
 ·rename_i hne
  cases hfp:xR r p with
  |error k=>rw[hfp]at h;cases h
  |ok x=>
   obtain⟨f',hf'⟩:=x
   rw[hfp]at h
   cases h
   have hr':r=[]∨ ∃c r',r=c::r'∧([35]:Bs).contains c=true:=by
    rcases hr with e|⟨c,r',rfl,hc⟩
    ·exact .inl e
    ·have:c=63∨c=35:=by simpa using hc
     rcases this with e|e
     ·exact absurd (by rw[e]) (hne r')
     ·exact .inr ⟨c,r',rfl,by rw[e];decide⟩
   obtain⟨j1,j2,j3⟩:=Ap hr' hfp
   exact⟨rfl,fun e=>absurd rfl e,j1,j2,by simpa using j3⟩
theorem Ip {r:Bs} {p:Nat} {pa q:Bs} {hq:Bool} {f:Bs} {hf:Bool} (hr:Ds r) (h:Gi r p= .ok (pa,q,hq,f,hf)):
 (pa=[]∨pa[0]?=some 47)∧isRow [63] pa∧isRow [] q∧(q≠[]→hq=true)∧isRow [] f∧(f≠[]→hf=true)∧pa++(if hq=true then 63::q else[])++(if hf=true then 35::f else[])=r:=by
 unfold Gi at h
 split at h
 ·rename_i h2
  obtain⟨i1,i2⟩:=mN (w:=[63]) (w2:=[63,35]) (fun c hc=> .inl (by
   have:c=63:=by simpa using hc
   rw[this];decide)) r (a7 [63,35] r).1 (Prod.ext rfl h2)
  have hle:=j9 [63,35] r
  cases hfp:vW (r.drop (a7 [63,35] r).1) (p+(a7 [63,35] r).1)with
  |error k=>rw[hfp]at h;cases h
  |ok x=>
   obtain⟨q',hq',f',hf'⟩:=x
   rw[hfp]at h
   cases h
   obtain⟨j1,j2,j3,j4,j5⟩:=Gj i2 hfp
   refine⟨?_,?_,j1,j2,j3,j4,?_⟩
   ·rcases hr with rfl|⟨c,r',rfl,hc⟩
    ·exact .inl qE
    ·have:c=47∨c=63∨c=35:=by simpa using hc
     rcases this with e|e|e
     ·subst e
      by_cases h0:(a7 [63,35] (47::r')).1=0
      ·exact .inl (by rw[h0];rfl)
      ·right
       rw[List.getElem?_take,if_pos qD]
       rfl
     ·left
      have:(a7 [63,35] (c::r')).1=0:=by rw[a7.eq_def];simp[e]
      rw[this];rfl
     ·left
      have:(a7 [63,35] (c::r')).1=0:=by rw[a7.eq_def];simp[e]
      rw[this];rfl
   ·unfold isRow
    rw[i1,List.length_take,Nat.min_eq_left hle]
   ·rw[List.append_assoc,j5,List.take_append_drop]
 ·cases h
theorem pC (p:UInt8→Bool) (s:Bs):s.takeWhile p++s.drop (s.takeWhile p).length=s:=by
 conv=>rhs;rw[←List.takeWhile_append_dropWhile (p:=p) (l:=s)]
 congr 1
 have:=List.takeWhile_append_dropWhile (p:=p) (l:=s)
 conv=>lhs;rw[←this]
 rw[this,←this,List.takeWhile_append_dropWhile]
 conv=>lhs;arg 2;rw[←this]
 rw[List.drop_left]
theorem Gk {r:Bs} {p:Nat} {h q r2:Bs} {k:Nat} (he:An r p= .ok (h,q,r2,k)):
 e7 h=true∧(q=[]∨mO q≠0)∧Ds r2∧h++(if q=[]then[]else 58::q)++r2=r:=by
 unfold An at he
 split at he
 ·rename_i hh
  have hd:=pC bW r
  split at he
  ·rename_i q' hq'
   split at he
   ·cases he
   ·rename_i hp
    split at he
    ·rename_i hend
     cases he
     have hne:q'.takeWhile bE≠[]:=fun e=>hp (by rw[e];rfl)
     refine⟨hh,.inr hp,hend,?_⟩
     rw[if_neg hne,List.append_assoc,List.cons_append,pC,←hq',hd]
    ·cases he
  ·split at he
   ·rename_i hend
    cases he
    refine⟨hh,.inl rfl,hend,?_⟩
    rw[if_pos rfl,List.append_nil,hd]
   ·cases he
 ·cases he
theorem tW {b c:UInt8} (h:low b=c) (hc: ¬(97≤c.toNat∧c.toNat≤122)):b=c:=by
 unfold low at h
 split at h
 ·rename_i hu
  exfalso
  apply hc
  rw[←h]
  simp[Aj]at hu
  simp
  omega
 ·exact h
theorem Vv {s:Bs} (h:small s=[58,47,47]):s=[58,47,47]:=by
 match s,h with
 |[a,b,c],h=>
  simp only[small,List.map_cons,List.map_nil,List.cons.injEq,and_true]at h
  rw[tW h.1 qK,tW h.2.1 qK,tW h.2.2 qK]
 |[],h=>cases h
 |[_],h=>simp[small]at h
 |[_,_],h=>simp[small]at h
 |_::_::_::_::_,h=>simp[small]at h
theorem xS {t:Bs} {w:Bs} {k:Nat} (h:small (t.take (k+3))=w++[58,47,47]) (hw:w.length=k):small (t.take k)=w∧t.take k++[58,47,47]++t.drop (k+3)=t:=by
 rw[List.take_add]at h
 simp only[small,List.map_append]at h
 have hl:((t.take k).map low).length=w.length:=by
  have:=congrArg List.length h
  simp only[List.length_append,List.length_map,List.length_take,List.length_drop,List.length_cons,List.length_nil]at this⊢
  omega
 obtain⟨h1,h2⟩:=List.append_inj h hl
 refine⟨h1,?_⟩
 have h3:=Vv h2
 rw[←h3,←List.take_add,List.take_append_drop]
theorem Du {t s:Bs} {n:Nat} (h:gV t= .ok (s,n)):okS s∧s++[58,47,47]++t.drop n=t:=by
 unfold gV at h
 split at h
 ·rename_i h1
  cases h
  obtain⟨e1,e2⟩:=xS (k:=4) (w:=[104,116,116,112]) (pB jT t h1) rfl
  exact⟨.inl e1,e2⟩
 ·split at h
  ·rename_i h1
   cases h
   obtain⟨e1,e2⟩:=xS (k:=5) (w:=[104,116,116,112,115]) (pB gC t h1) rfl
   exact⟨.inr e1,e2⟩
  ·cases h
theorem Iq {t:Bs} {a:Adr} (h:Ao t= .ok a):SO a∧dF a=t:=by
 unfold Ao at h
 split at h
 ·cases h
 ·rename_i s n hs
  obtain⟨h1,h2⟩:=Du hs
  split at h
  ·cases h
  ·rename_i hh p r k hp
   obtain⟨h3,h4,h5,h6⟩:=Gk hp
   split at h
   ·cases h
   ·rename_i pa q hq f hf hr
    obtain⟨h7,h8,h9,h10,h11,h12,h13⟩:=Ip h5 hr
    cases h
    refine⟨⟨h1,h3,h4,h7,h8,h9,h11,h10,h12⟩,?_⟩
    simp only[dF,eK,gU,eV,mP]
    rw[h13,List.append_assoc,List.append_assoc,←List.append_assoc hh,h6]
    exact h2
theorem mQ (s:Bs) (i:Nat) (h:i<s.length):s.drop i=s[i]?.getD 0::s.drop (i+1):=by
 rw[List.drop_eq_getElem_cons h];simp[h]
theorem MO (w s:Bs) (i:Nat) (h:s.length≤i):a7 w (s.drop i)=(0,true):=by
 rw[List.drop_of_length_le h];rfl
theorem Dv (w s:Bs) (i:Nat) (h:i<s.length):a7 w (s.drop i)=
 if w.contains (s[i]?.getD 0)=true then(0,true)else if oM (s[i]?.getD 0)=true then(0,false)
 else if s[i]?.getD 0=37 then(if i+2<s.length∧bR (s[i+1]?.getD 0)=true∧bR (s[i+2]?.getD 0)=true then((a7 w (s.drop (i+3))).1+3,(a7 w (s.drop (i+3))).2)else(0,false))
 else((a7 w (s.drop (i+1))).1+1,(a7 w (s.drop (i+1))).2):=by
 rw[mQ s i h,a7.eq_def]
 simp only
 split
 ·rfl
 split
 ·rfl
 split
 ·by_cases h1:i+1<s.length
  ·rw[mQ s (i+1) h1]
   by_cases h2:i+2<s.length
   ·rw[mQ s (i+1+1) h2]
    simp only[h2,true_and]
   ·rw[List.drop_of_length_le (show s.length≤i+1+1 by omega)]
    rw[if_neg (fun e=>h2 e.1)]
  ·rw[List.drop_of_length_le (show s.length≤i+1 by omega)]
   rw[if_neg (fun e=>h1 qD)]
 ·rfl
def rowAt (w s:Bs) (i:Nat):Nat×Bool:=(i+(a7 w (s.drop i)).1,(a7 w (s.drop i)).2)
theorem rowAt_zero (w s:Bs):rowAt w s 0=a7 w s:=by simp[rowAt]
theorem KX (w s:Bs) (i:Nat) (h:s.length≤i):rowAt w s i=(i,true):=by simp[rowAt,MO w s i h]
theorem sK (w s:Bs) (i:Nat) (h:i<s.length):rowAt w s i=
 if w.contains (s[i]?.getD 0)=true then(i,true)else if oM (s[i]?.getD 0)=true then(i,false)
 else if s[i]?.getD 0=37 then(if i+2<s.length∧bR (s[i+1]?.getD 0)=true∧bR (s[i+2]?.getD 0)=true then rowAt w s (i+3)else(i,false))
 else rowAt w s (i+1):=by
 unfold rowAt
 rw[Dv w s i h]
 repeat' split
 all_goals first|rfl|(refine Prod.ext ?_ rfl;simp only;omega)
def tX (s:Bs):Nat:=s.foldl (fun n c=>10*n+(c.toNat-48)) 0
theorem Cg (s:Bs) (j:Nat) (h:j<s.length):tX (s.take (j+1))=10*tX (s.take j)+((s[j]?.getD 0).toNat-48):=by
 unfold tX
 rw[List.take_add_one,List.foldl_append]
 simp[h]
theorem JF (s:Bs) (hs:s.all bE=true) (j:Nat) (h:j≤s.length):tX (s.take j)<10^j:=by
 induction j with
 |zero=>simp[tX]
 |succ j ih=>
  have h1:=ih qD
  rw[Cg s j qD]
  have h2:bE s[j]=true:=List.all_eq_true.1 hs _ (List.getElem_mem qD)
  have h3:s[j]?.getD 0=s[j]:=by rw[List.getElem?_eq_getElem qD];rfl
  simp only[bE,Bool.and_eq_true,decide_eq_true_eq]at h2
  rw[h3,Nat.pow_succ]
  omega
theorem SP (s:Bs) (hs:s.all bE=true) (j:Nat) (h:j<s.length):48≤(s[j]?.getD 0).toNat∧(s[j]?.getD 0).toNat≤57:=by
 have h2:bE s[j]=true:=List.all_eq_true.1 hs _ (List.getElem_mem h)
 have h3:s[j]?.getD 0=s[j]:=by rw[List.getElem?_eq_getElem h];rfl
 simp only[bE,Bool.and_eq_true,decide_eq_true_eq]at h2
 rw[h3];exact h2
theorem MP (s:Bs) (h: ¬(1≤s.length∧s.length≤5∧s.all bE=true)):mO s=0:=by unfold mO;rw[if_neg h]
theorem KY (s:Bs) (h:1≤s.length∧s.length≤5∧s.all bE=true):mO s=if tX s≤65535 then tX s else 0:=by unfold mO;rw[if_pos h];rfl
end Go.Proofs.YtdjfgcjlnfnfhaaGreatDoor
namespace Go.Proofs.YtdjfgcjlnfnfhaaGreatDoor
open Go.Lw Go.RowKit
set_option maxRecDepth 100000
set_option maxHeartbeats 1000000
theorem fP (c:UInt8):aJ Tryz.prog 203 [u8 c] (tru (jX c)):=by
 refine aW Tryz.func203 rfl qC Tryz.ntmps203 _ rfl qE fun C hc=>?_
 repeat' (first|refine Wd ?_|(refine Wc ?_ ?_<;>intro hb<;>try simp at hb)|fail)
 (refine Zl hc (hr:=?_))
 refine bT ?_
 rw[Bool.eq_iff_iff];simp[jX,SM,Aj];omega
theorem dQ (c:UInt8):aJ Tryz.prog 204 [u8 c] (tru (bE c)):=by
 refine aW Tryz.func204 rfl qC Tryz.ntmps204 _ rfl qE fun C hc=>?_
 repeat' (first|refine Wd ?_|(refine Wc ?_ ?_<;>intro hb<;>try simp at hb)|fail)
 (refine Zl hc (hr:=?_))
 refine bT ?_
 rw[Bool.eq_iff_iff];simp[bE];omega
theorem Gl (c:UInt8):aJ Tryz.prog 208 [u8 c] (tru (bR c)):=by
 refine aW Tryz.func208 rfl qC Tryz.ntmps208 _ rfl qE fun C hc=>?_
 repeat' (first|refine Wd ?_|(refine Wc ?_ ?_<;>intro hb<;>try simp at hb)|refine Zw hc (hf:=by exact dQ _) (hk:=?_)|refine Zq hc (hf:=by exact dQ _) (hk:=?_)|refine Wn ?_|fail)
 (refine Zl hc (hr:=?_))
 refine bT ?_
 rw[Bool.eq_iff_iff];cases h:bE c<;>simp[bR,h]<;>omega
theorem Gm {α:Type} (p:α→Bool) (s:List α) (d:α) (j:Nat) (h:j<s.length):(s.take (j+1)).all p=((s.take j).all p&&p (s[j]?.getD d)):=by
 rw[List.take_add_one,List.all_append];simp[h]
theorem JG {α:Type} (p:α→Bool) (s:List α) (d:α) (j:Nat) (h:j<s.length) (hp:p (s[j]?.getD d)=false):s.all p=false:=by
 rw[List.all_eq_false]
 exact⟨s[j],List.getElem_mem h,by simpa[h]using hp⟩
theorem KZ (s:Bs):oG s=true↔(1≤s.length∧s.length≤63∧(s[0]?.getD 0).toNat≠45∧(s[s.length-1]?.getD 0).toNat≠45∧s.all Gg=true):=by
 simp[oG,and_assoc]
theorem Ir (s:Bs) (hm:s.length≤9223372036854775807):aJ Tryz.prog 130 [str s] (tru (oG s)):=by
 refine aW Tryz.func130 rfl qC Tryz.ntmps130 _ rfl qE fun C hc=>?_
 have hiff:=KZ s
 repeat' (first|refine Wd ?_|(refine Wc ?_ ?_<;>intro hb<;>try simp at hb)|refine Wn ?_|fail)
 ·have:oG s=false:=by
   rw[←Bool.not_eq_true]
   intro e
   have:=hiff.1 e
   omega
  rw[this]
  (refine Zl hc (hr:=?_))
  simp
 refine aN (fun j:Nat=>⟨[(0,.d (str s)),(26,.d (int s.length)),(27,.d (int j))],[]⟩) (fun j=>j≤s.length∧(s.take j).all Gg=true) (fun j=>s.length-j) 0 qE (aG [0,26,27] [] qA qA) ?_
 rintro j ⟨h1,h2⟩
 have hn:=fun h=>Gm Gg s 0 j h
 have hno:=fun h=>JG Gg s 0 j h
 have hL: ∀c:UInt8,Gg c=(jX c||bE c||decide (c.toNat=45)):=fun _=>rfl
 repeat' (first|refine Wd ?_|(refine Wc ?_ ?_<;>intro hb<;>try simp at hb)|refine Zw hc (hf:=Qr) (hk:=?_)|refine Zq hc (hf:=Qr) (hk:=?_)|refine Wn ?_|fail)
 ·rename_i hlt
  have:oG s=false:=by
   rw[←Bool.not_eq_true]
   intro e
   have h3:=(hiff.1 e).2.2.2.2
   rw[hno qD (by rw[hL,hb.1.1,hb.1.2];simp;omega)]at h3
   cases h3
  rw[this]
  (refine Zl hc (hr:=?_))
  simp
 ·rename_i hlt
  refine⟨j+1,⟨qD,?_⟩,qD,aC [0,26,27] [] qA qA qE⟩
  rw[hn qD,h2,hL]
  cases h3:jX (s[j]?.getD 0)
  ·cases h4:bE (s[j]?.getD 0)
   ·have:=hb h3 h4
    simp;omega
   ·simp
  ·rfl
 ·have:oG s=true:=by
   refine hiff.2 ⟨qD,qD,qD,qD,?_⟩
   rw[List.take_of_length_le qD]at h2
   exact h2
  rw[this]
  (refine Zl hc (hr:=?_))
  simp
theorem Ch (s:Bs) (hm:s.length≤9223372036854775807):aJ Tryz.prog 66 [str s] (tru (e7 s)):=by
 refine aW Tryz.func66 rfl qC Tryz.ntmps66 _ rfl qE fun C hc=>?_
 by_cases hlen:s.length≤253
 rotate_left
 ·have:e7 s=false:=by simp[e7,hlen]
  rw[this]
  repeat' (first|refine Wd ?_|(refine Wc ?_ ?_<;>intro hb<;>try simp at hb)|refine Wn ?_|fail)
  ·(refine Zl hc (hr:=?_))
   simp
  ·exfalso;omega
 have e0:e7 s=(Lib.split s [46]).all oG:=by simp[e7,hlen]
 have hsp:=mM s 46 qD
 have hsl:=fG s 46
 have hso:=nM s 46
 rw[e0]
 generalize Lib.split s [46]=L at hsp hsl hso
 repeat' (first|refine Wd ?_|(refine Wc ?_ ?_<;>intro hb<;>try simp at hb)|refine Zw hc (hf:=by exact hsp) (hk:=?_)|refine Zq hc (hf:=by exact hsp) (hk:=?_)|refine Wn ?_|fail)
 ·exfalso;omega
 refine aN (fun j:Nat=>⟨[(9,.d (cE L)),(10,.d (int L.length)),(11,.d (int j))],[]⟩) (fun j=>j≤L.length∧(L.take j).all oG=true) (fun j=>L.length-j) 0 qE (aG [9,10,11] [] qA qA) ?_
 rintro j ⟨h1,h2⟩
 have hlab:=Ir (L[j]?.getD [])
 have hso:=hso j
 have hn:=fun h=>Gm oG L [] j h
 have hno:=fun h=>JG oG L [] j h
 repeat' (first|refine Wd ?_|(refine Wc ?_ ?_<;>intro hb<;>try simp at hb)|refine Zw hc (hf:=by exact hlab qD) (hk:=?_)|refine Zq hc (hf:=by exact hlab qD) (hk:=?_)|refine Wn ?_|fail)
 ·rw[hno qD hb]
  (refine Zl hc (hr:=?_))
  simp
 ·exact⟨j+1,⟨qD,by rw[hn qD,h2,hb];rfl⟩,qD,aC [9,10,11] [] qA qA qE⟩
 ·rw[List.take_of_length_le qD]at h2
  rw[h2]
  (refine Zl hc (hr:=?_))
  simp
theorem rS {p:UInt8→Bool}: ∀l:Bs,l.dropWhile p=[]↔l.all p=true
 |[]=>by simp
 |c::l=>by
  rw[List.dropWhile_cons,List.all_cons]
  cases h:p c
  ·simp
  ·simpa using rS l
theorem oH {p:UInt8→Bool}: ∀l:Bs,(l.dropWhile p).all p=l.all p
 |[]=>by simp
 |c::l=>by
  rw[List.dropWhile_cons]
  cases h:p c
  ·simp[h]
  ·simpa[h]using oH l
theorem Is (c:UInt8):([48,49,50,51,52,53,54,55,56,57]:Bs).contains c=bE c:=by
 rw[Bool.eq_iff_iff]
 simp only[bE,List.contains_cons,List.contains_nil,Bool.or_false,Bool.or_eq_true,beq_iff_eq,Bool.and_eq_true,decide_eq_true_eq,←UInt8.toNat_inj]
 simp
 omega
theorem fY (s:Bs):Lib.trimS s [48,49,50,51,52,53,54,55,56,57]=[]↔s.all bE=true:=by
 unfold Lib.trimS Lib.trimLeftS Lib.trimRightS
 rw[rS,List.all_reverse,oH,List.all_reverse]
 rw[show(fun x=>([48,49,50,51,52,53,54,55,56,57]:Bs).contains x)=bE from funext Is]
theorem jI (s:Bs) (cs:Bs) (hs:s.length≤9223372036854775807) (hcs:cs.length<4294967281) (ha:cs.all (fun b=>decide (b.toNat<128))=true):aJ Tryz.prog 131 [str s,str cs] (str (Lib.trimS s cs)):=
 iA [.string (bs s),.string (bs cs)] qC fun w _=>by
  have h:Calls Tryz.prog 131 #[.string (bs s),.string (bs cs)] w (fun e w'=>e= .returned (.string ⟨(Lib.trimS (bs s).data.toList (bs cs).data.toList).toArray⟩)∧Below w.heap.size w w'):=Any.strings_Trim_laid Tryz.Pb qC (bs s) (bs cs) w Qx (by simpa using hcs) (ascii_of_all (by simpa using ha))
  simpa using h
theorem Ci (s:Bs) (hm:s.length≤9223372036854775807):aJ Tryz.prog 67 [str s] (int (mO s)):=by
 refine aW Tryz.func67 rfl qC Tryz.ntmps67 _ rfl qE fun C hc=>?_
 have htr:=jI s [48,49,50,51,52,53,54,55,56,57] hm qK qK
 have hdg:=fY s
 generalize Lib.trimS s [48,49,50,51,52,53,54,55,56,57]=u at htr hdg
 repeat' (first|refine Wd ?_|(refine Wc ?_ ?_<;>intro hb<;>try simp at hb)|refine Zw hc (hf:=by exact htr) (hk:=?_)|refine Zq hc (hf:=by exact htr) (hk:=?_)|refine Wn ?_|fail)
 ·rw[MP s (fun e=>by
   rcases hb with h|h
   ·omega
   ·exact h (hdg.2 e.2.2))]
  (refine Zl hc (hr:=?_))
  simp
 have hd:=hdg.1 hb.2
 rw[KY s ⟨qD,qD,hd⟩]
 refine aN (fun j:Nat=>⟨[(0,.d (str s)),(3,.d (int (tX (s.take j)))),(19,.d (int s.length)),(20,.d (int j))],[]⟩) (fun j=>j≤s.length) (fun j=>s.length-j) 0 qE (aG [0,3,19,20] [] qA qA) ?_
 intro j h1
 have hlt:=JF s hd j h1
 have hpow:10^j≤10^5:=Nat.pow_le_pow_right qD qD
 have hat:=SP s hd j
 have hnx:=Cg s j
 by_cases hj:j<s.length
 ·have hat:=hat hj
  generalize tX (s.take j)=n at hlt hnx
  repeat' (first|refine Wd ?_|(refine Wc ?_ ?_<;>intro hb<;>try simp at hb)|refine Wn ?_|fail)
  ·refine⟨j+1,qD,qD,aC [0,3,19,20] [] qA qA ?_⟩
   rw[hnx hj]
   simp
   omega
  all_goals(exfalso;omega)
 ·rw[List.take_of_length_le (show s.length≤j by omega)]
  repeat' (first|refine Wd ?_|(refine Wc ?_ ?_<;>intro hb<;>try simp at hb)|refine Wn ?_|fail)
  ·exfalso;omega
  ·rw[if_neg qD]
   (refine Zl hc (hr:=?_))
   simp
  ·rw[if_pos qD]
   (refine Zl hc (hr:=?_))
   simp
end Go.Proofs.YtdjfgcjlnfnfhaaGreatDoor
