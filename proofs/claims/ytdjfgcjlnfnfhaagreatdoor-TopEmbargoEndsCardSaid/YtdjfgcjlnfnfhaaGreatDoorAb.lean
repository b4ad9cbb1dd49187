/- Proofs in short, each by its name. -/
import Derived.Ground.Names2Prog
import Derived.Ground.PaProg
import Derived.Ground.SlgmProg
import Derived.Shelf.Bits.Mul64
import Derived.Shelf.LaysC
import Derived.Shelf.LaysM
import Derived.Shelf.Path.Small
import Derived.Shelf.Slices.Cells
import Derived.Shelf.Slices.Empties2
import Derived.Shelf.Slices.Equal
import Derived.Shelf.Slices.ReverseS
import Derived.Shelf.Slices.SearchI
import Derived.Shelf.Slices.Turned
import Derived.Shelf.Small.Bits
import Derived.Shelf.Small.Strs
import Derived.Shelf.Small.Utf8
import Derived.Shelf.Small.Wraps
import Derived.Shelf.Sort.Plain
import Derived.Shelf.SortM.SortNone
import Derived.Shelf.Strconv.Atoi
import Derived.Shelf.Strconv.AtoiAll
import Derived.Shelf.Strconv.AtoiErr
import Derived.Shelf.Strconv.AtoiErrFast
import Derived.Shelf.Strconv.AtoiFail
import Derived.Shelf.Strconv.AtoiInnerAll
import Derived.Shelf.Strconv.AtoiLong
import Derived.Shelf.Strconv.Clone
import Derived.Shelf.Strconv.ErrVar
import Derived.Shelf.Strconv.ErrVarAll
import Derived.Shelf.Strconv.Itoa0
import Derived.Shelf.Strconv.Itoa1
import Derived.Shelf.Strconv.Itoa2
import Derived.Shelf.Strconv.Itoa3
import Derived.Shelf.Strconv.Lower
import Derived.Shelf.Strconv.ParseInt10
import Derived.Shelf.Strconv.ParseInt10At16
import Derived.Shelf.Strconv.ParseInt10At32
import Derived.Shelf.Strconv.ParseInt10At8
import Derived.Shelf.Strconv.ParseIntEmpty
import Derived.Shelf.Strconv.ParseUint10
import Derived.Shelf.Strconv.ParseUint10Any
import Derived.Shelf.Strconv.ParseUint10At
import Derived.Shelf.Strconv.ParseUint10Empty
import Derived.Shelf.Strconv.ParseUint10b16
import Derived.Shelf.Strconv.ParseUint10b32
import Derived.Shelf.Strconv.ParseUint10b64
import Derived.Shelf.Strconv.ParseUint10b8
import Derived.Shelf.Strconv.ParseUintEmpty
import Derived.Shelf.Strconv.RangeError
import Derived.Shelf.Strconv.SyntaxError
import Derived.Shelf.Strconv.ToError
import Derived.Shelf.Strconv.ToErrorRange
import Derived.Shelf.Strings.AsciiSet
import Derived.Shelf.Strings.Builder1
import Derived.Shelf.Strings.Builder2
import Derived.Shelf.Strings.Builder2Cap
import Derived.Shelf.Strings.BuilderCap
import Derived.Shelf.Strings.BuilderF
import Derived.Shelf.Strings.BuilderK
import Derived.Shelf.Strings.Count
import Derived.Shelf.Strings.Cut
import Derived.Shelf.Strings.Explode
import Derived.Shelf.Strings.FieldsFuncAny
import Derived.Shelf.Strings.FieldsFuncGrows
import Derived.Shelf.Strings.IndexAny
import Derived.Shelf.Strings.IndexAnyAll
import Derived.Shelf.Strings.LastIndex
import Derived.Shelf.Strings.OnBuilder
import Derived.Shelf.Strings.Prefix
import Derived.Shelf.Strings.Repeat
import Derived.Shelf.Strings.RuneCount
import Derived.Shelf.Strings.Runes
import Derived.Shelf.Strings.Search1
import Derived.Shelf.Strings.Search2
import Derived.Shelf.Strings.Search3
import Derived.Shelf.Strings.Shaped
import Derived.Shelf.Strings.Split
import Derived.Shelf.Strings.SplitShaped
import Derived.Shelf.Strings.Trim
import Derived.Shelf.Unicode.Decode
import Derived.Shelf.Unicode.DecodeAny
import Derived.Shelf.Unicode.DecodeLast
import Derived.Shelf.Unicode.DecodeSlow
import Derived.Shelf.Utf8.RuneCount
import Derived.WalkKit
theorem qA{A:Prop}(h:A:=by simp;exact aA.mk):A:=h
theorem qC{A:Prop}(h:A:=by kernel_rfl):A:=h
theorem qD{A:Prop}(h:A:=by omega):A:=h
theorem qE{A:Prop}(h:A:=by simp):A:=h
theorem qF{A:Prop}(h:A:=by first|exact True.intro|omega|(simp;done)|(simp;omega)|(simp at*;omega)):A:=h
theorem qG{A:Prop}(h:A:=by first|exact True.intro|omega|assumption|(simp;done)|(simp;omega)|(simp at*;omega)):A:=h
theorem qH{A:Prop}(h:A:=by simp;omega):A:=h
theorem qI{A:Prop}(h:A:=by simp only;omega):A:=h
theorem qJ{A:Prop}(h:A:=by first|(simp;done)|(simp;omega)):A:=h
theorem qK{A:Prop}(h:A:=by decide):A:=h
theorem qL{A:Prop}(h:A:=by first|omega|(simp;done)|(simp;omega)|(simp at*;omega)):A:=h
theorem qM{A:Prop}(h:A:=by simp[hlw];exact aA.mk):A:=h
theorem qN{A:Prop}(h:A:=by assumption):A:=h
theorem qO{A:Prop}(h:A:=by simp[hn];exact aA.mk):A:=h
theorem qP{A:Prop}(h:A:=by first|exact h2|exact h3|exact h4|exact h5|exact h6|exact h7|exact h8):A:=h
theorem qQ{A:Prop}(h:A:=by simp;first|exact Ends.go|exact Ends.halt):A:=h
theorem qR{A:Prop}(h:A:=by exact aS _ _):A:=h
theorem qS{A:Prop}(h:A:=by first|exact hK|exact hF):A:=h
theorem qT{A:Prop}(h:A:=by first|(simp[lB,ha',Nat.add_assoc];done)|(simp[lB,ha',Nat.add_assoc];omega)):A:=h
theorem qU{A:Prop}(h:A:=by simpa using hi):A:=h
theorem qV{A:Prop}(h:A:=by exact hC):A:=h
theorem qW{A:Prop}(h:A:=by simp[hs2];exact aA.mk):A:=h
theorem qX{A:Prop}(h:A:=by first|exact hK|exact hF|exact hSp):A:=h
theorem qY{A:Prop}(h:A:=by first|exact h1|exact h2|exact h3|exact h4|exact h5|exact h6|exact h8):A:=h
theorem qZ{A:Prop}(h:A:=by simp[h0];exact aA.mk):A:=h
theorem q8{A:Prop}(h:A:=by simpa using h):A:=h
theorem q9{A:Prop}(h:A:=by first|exact hC|exact hS|exact hN|exact hK):A:=h
theorem Qb{A:Prop}(h:A:=by simp[hfd];exact aA.mk):A:=h
theorem Qc{A:Prop}(h:A:=by exact h):A:=h
theorem Qd{A:Prop}(h:A:=by rw[hnt];have:=hc.nt;omega):A:=h
theorem Qe{A:Prop}(h:A:=by rw[←q1];exact(List.getElem?_eq_some_iff.1 hk).1):A:=h
theorem Qf{A:Prop}(h:A:=by exact hS):A:=h
theorem Qg{A:Prop}(h:A:=by simp;try exact aA.mk):A:=h
theorem Qh{A:Prop}(h:A:=by simp;exact Ends.halt):A:=h
theorem Qi{A:Prop}(h:A:=by first|exact hq1|exact hq2):A:=h
theorem Qj{A:Prop}(h:A:=by first|exact hc1|exact hc2|exact hB):A:=h
theorem Qk{A:Prop}(h:A:=by first|exact hg|exact hsm):A:=h
theorem Ql{A:Prop}(h:A:=by first|exact h3|exact hs|exact hB|exact h5|exact h4):A:=h
theorem Qm{A:Prop}(h:A:=by simpa using hb):A:=h
theorem Qn{A:Prop}(h:A:=by rw[hrow2 j k (.inr (by omega)) (by rw[←q1];exact(List.getElem?_eq_some_iff.1 hk).1)];exact q3):A:=h
theorem Qo{A:Prop}(h:A:=by simp[hlw];first|exact Ends.go|exact Ends.halt):A:=h
theorem Qp{A:Prop}(h:A:=by simp[hn];first|exact Ends.go|exact Ends.halt):A:=h
theorem Qq{A:Prop}(h:A:=by simp only[hnx,hat,List.append_nil];exact hM):A:=h
theorem Qr{A:Prop}(h:A:=by first|exact fP _|exact dQ _):A:=h
theorem Qs{A:Prop}(h:A:=by rw[hrow2 j k (.inl hj1) (by rw[←q1];exact(List.getElem?_eq_some_iff.1 hk).1)];exact q3):A:=h
theorem Qt{A:Prop}(h:A:=by first|exact hCb|exact hTr|exact hRo|exact hSm|exact hPr|exact hRd2|exact hC1|exact hU1):A:=h
theorem Qu{A:Prop}(h:A:=by exact hI):A:=h
theorem Qv{A:Prop}(h:A:=by first|exact hCb|exact hTr|exact hRo|exact hSm|exact hPr|exact hMe|exact hC1|exact hU1):A:=h
theorem Qw{A:Prop}(h:A:=by first|exact h3|exact hB|exact h5|exact h4):A:=h
theorem Qx{A:Prop}(h:A:=by simpa using hs):A:=h
theorem Qy{A:Prop}(h:A:=by simp only[List.length_append,List.length_drop];omega):A:=h
theorem Qz{A:Prop}(h:A:=by rw[aM]):A:=h
theorem QA{A:Prop}(h:A:=by simp[Builtin.firstCells]):A:=h
theorem QB{A:Prop}(h:A:=by first|exact hF|exact hCT):A:=h
theorem QC{A:Prop}(h:A:=by simp only[look,if_neg d1];rfl):A:=h
theorem QD{A:Prop}(h:A:=by have hg':w.drew.heap[g]?=some (.cells cur 5 (0,0)):=hg;simp[World.shape?,hg']):A:=h
theorem QE{A:Prop}(h:A:=by first|exact h1|exact h2):A:=h
theorem QF{A:Prop}(h:A:=by first|exact hCb|exact hTr|exact hRo|exact hSm|exact hRd|exact hC1|exact hU1):A:=h
theorem QG{A:Prop}(h:A:=by first|exact hq|exact hs):A:=h
theorem QH{A:Prop}(h:A:=by first|exact hS|exact hL):A:=h
theorem QI{A:Prop}(h:A:=by simp only[jF];omega):A:=h
theorem QJ{A:Prop}(h:A:=by simpa using hg):A:=h
theorem QK{A:Prop}(h:A:=by simpa using hn):A:=h
theorem QL{A:Prop}(h:A:=by first|exact hC|exact hNa|exact hC2):A:=h
theorem QM{A:Prop}(h:A:=by simp;assumption):A:=h
theorem QN{A:Prop}(h:A:=by first|exact hN|exact hCP|exact h2|exact hT|exact h1|exact hP|exact hQ):A:=h
theorem QO{A:Prop}(h:A:=by first|exact hC|exact hN|exact hQ):A:=h
theorem QP{A:Prop}(h:A:=by first|exact hA|exact hM|exact hE):A:=h
theorem QQ{A:Prop}(h:A:=by rw[List.getElem?_eq_getElem hlt];simp only[Option.getD_some];omega):A:=h
theorem QR{A:Prop}(h:A:=by simpa using h1):A:=h
theorem QS{A:Prop}(h:A:=by first|exact hCb|exact hTr|exact hRo|exact hSm|exact hC1|exact hU1):A:=h
theorem QT{A:Prop}(h:A:=by first|exact hS1|exact hS2|exact hTL|exact hN1|exact hN2|exact hUn):A:=h
theorem QU{A:Prop}(h:A:=by first|exact hN|exact hCP|exact hT|exact hP|exact hQ|exact lQ _ _):A:=h
theorem QV{A:Prop}(h:A:=by rw[h]at hr;cases hr):A:=h
theorem QW{A:Prop}(h:A:=by simp only[bQ];omega):A:=h
theorem QX{A:Prop}(h:A:=by simp only;rw[hn,←List.append_assoc,←hN]):A:=h
theorem QY{A:Prop}(h:A:=by simpa[bU]using hs):A:=h
theorem QZ{A:Prop}(h:A:=by exact jI s _ hs (by simp) (by decide)):A:=h
theorem Q0{A:Prop}(h:A:=by first|exact hraw|exact hend):A:=h
theorem Q1{A:Prop}(h:A:=by first|exact aS _ _|exact cU _|exact bP _ (by simp;omega)):A:=h
theorem Q2{A:Prop}(h:A:=by exact bP _ (by simp;omega)):A:=h
theorem Q3{A:Prop}(h:A:=by simpa[Lw.fO]using hf):A:=h
theorem Q4{A:Prop}(h:A:=by first|exact .inl rfl|exact .inr rfl):A:=h
theorem Q5{A:Prop}(h:A:=by simp[hlw];exact Ends.halt):A:=h
theorem Q6{A:Prop}(h:A:=by unfold kD;simp only;omega):A:=h
theorem Q7{A:Prop}(h:A:=by simp only[hget];rfl):A:=h
theorem Q8{A:Prop}(h:A:=by simp only[hml,g1,g2];rfl):A:=h
theorem Q9{A:Prop}(h:A:=by simp[hn];exact Ends.halt):A:=h
theorem qaA{A:Prop}(h:A:=by first|exact h1|exact h2|exact h3|exact h4|exact h5):A:=h
theorem qaB{A:Prop}(h:A:=by rw[hS0,hstp,if_pos hil,if_neg (by rw[hfin];omega)]):A:=h
theorem qaC{A:Prop}(h:A:=by first|exact hO|exact hs|exact hq):A:=h
theorem qaD{A:Prop}(h:A:=by simp[look]):A:=h
theorem qaE{A:Prop}(h:A:=by simp[hlw];exact Ends.go):A:=h
theorem qaF{A:Prop}(h:A:=by first|exact hC|exact hW):A:=h
theorem qaG{A:Prop}(h:A:=by first|exact hC|exact hS):A:=h
theorem qaH{A:Prop}(h:A:=by first|exact hS|exact hI):A:=h
theorem qaI{A:Prop}(h:A:=by simp only;rw[hnx,←List.append_assoc,←hM];exact hN):A:=h
theorem qaJ{A:Prop}(h:A:=by rw[cT,List.getElem?_map,hi];rfl):A:=h
theorem qaK{A:Prop}(h:A:=by simpa[bU]using hj):A:=h
theorem qaL{A:Prop}(h:A:=by simp[hn];exact Ends.go):A:=h
theorem qaM{A:Prop}(h:A:=by exact hF):A:=h
theorem qaN{A:Prop}(h:A:=by simp[aK,hu]):A:=h
theorem qaO{A:Prop}(h:A:=by simp only[bU];exact mem hx hj):A:=h
theorem qaP{A:Prop}(h:A:=by simp[hG0];exact aA.mk):A:=h
theorem qaQ{A:Prop}(h:A:=by simp at hi;omega):A:=h
theorem qaR{A:Prop}(h:A:=by rw[hb b h1];exact h2):A:=h
theorem qaS{A:Prop}(h:A:=by exact dJ _):A:=h
theorem qaT{A:Prop}(h:A:=by exact hN):A:=h
theorem qaU{A:Prop}(h:A:=by exact hh):A:=h
theorem qaV{A:Prop}(h:A:=by exact hR):A:=h
theorem qaW{A:Prop}(h:A:=by rw[aM];exact Nat.le_refl _):A:=h
theorem qaX{A:Prop}(h:A:=by rw[cT]at hn;simpa using hn):A:=h
theorem qaY{A:Prop}(h:A:=by rw[cT]at hg;simpa using hg):A:=h
theorem qaZ{A:Prop}(h:A:=by simpa using hk):A:=h
theorem qa0{A:Prop}(h:A:=by rw[hb'];decide):A:=h
theorem qa1{A:Prop}(h:A:=by simpa using hc):A:=h
theorem qa2{A:Prop}(h:A:=by simpa[l6]using hx):A:=h
theorem qa3{A:Prop}(h:A:=by simp[hes,ent]):A:=h
theorem qa4{A:Prop}(h:A:=by exact hI _):A:=h
