/- Texts: AbF30 AbF31 AbF64 AbF32 AbF33 AbF34 AbF9 AbF24 AbF5 -/
import Derived.Test.YtlbmblbeccafcaaGreatAbB4
set_option linter.unusedVariables false
set_option linter.unusedSimpArgs false

namespace Go.Proofs.YtlbmblbeccafcaaGreat
open Go Go.Ab

/- scholium/scholiumref12.V -/
def e30 (qq : Nat) (p0 : Int) : Option (Tm) :=
  (e47 qq 1 p0) >>= fun r1 =>
  some r1
theorem q30 : Tryz.prog.funcs[30]? = some Tryz.f30 ∧ Tryz.f30.body.isNone = false := ⟨Tryz.func30, by kernel_rfl⟩
theorem k30 {p0 : Int} {r : Tm} (h : CTri Tryz.prog 30 [] [ai p0] (tmA r) [] 0) : CT Tryz.prog 30 [] [ai p0] (tmA r) [] 0 := ⟨h, ⟨trivial, trivial⟩, forall_nil, ⟨trivial, trivial, dT _, trivial⟩, forall_nil⟩
theorem c30 {qq : Nat} {p0 : Int} {r : Tm} (h : e30 qq p0 = some r) : CT Tryz.prog 30 [] [ai p0] (tmA r) [] 0 := by
  unfold e30 at h
  obtain ⟨r1, h2, h⟩ := obind h
  obtain rfl := sj h
  exact k30 (tF q30 1 [] (oD (dT r1.sub) <| oC 0 [] (c47 h2) o0) (by kernel_rfl))

end Go.Proofs.YtlbmblbeccafcaaGreat

namespace Go.Proofs.YtlbmblbeccafcaaGreat
open Go Go.Ab

/- scholium/scholiumref12.L -/
def e31 (qq : Nat) (p0 : Tm) (p1 : Tm) : Option (Tm) :=
  (e56 qq 4 p0 p1) >>= fun r1 =>
  some r1
theorem q31 : Tryz.prog.funcs[31]? = some Tryz.f31 ∧ Tryz.f31.body.isNone = false := ⟨Tryz.func31, by kernel_rfl⟩
theorem k31 {p0 : Tm} {p1 : Tm} {r : Tm} (h : CTri Tryz.prog 31 [] [tmA p0, tmA p1] (tmA r) [] 0) : CT Tryz.prog 31 [] [tmA p0, tmA p1] (tmA r) [] 0 := ⟨h, ⟨⟨trivial, trivial, ⟨trivial, dT _⟩, trivial⟩, ⟨trivial, trivial, ⟨trivial, dT _⟩, trivial⟩, trivial⟩, forall_nil, ⟨trivial, trivial, dT _, trivial⟩, forall_nil⟩
theorem c31 {qq : Nat} {p0 : Tm} {p1 : Tm} {r : Tm} (h : e31 qq p0 p1 = some r) : CT Tryz.prog 31 [] [tmA p0, tmA p1] (tmA r) [] 0 := by
  unfold e31 at h
  obtain ⟨r1, h2, h⟩ := obind h
  obtain rfl := sj h
  exact k31 (tF q31 1 [] (oD (dT r1.sub) <| oC 2 [] (c56 h2) o0) (by kernel_rfl))

end Go.Proofs.YtlbmblbeccafcaaGreat

namespace Go.Proofs.YtlbmblbeccafcaaGreat
open Go Go.Ab

/- scholium/scholiumref07.Node -/
def e64 (qq : Nat) (p0 : Int) (p1 : Int) (p2 : List Tm) : Option (Tm) :=
  some (Tm.mk p0 p1 p2)
theorem q64 : Tryz.prog.funcs[64]? = some Tryz.f64 ∧ Tryz.f64.body.isNone = false := ⟨Tryz.func64, by kernel_rfl⟩
theorem k64 {p0 : Int} {p1 : Int} {p2 : List Tm} {r : Tm} (h : CTri Tryz.prog 64 [] [ai p0, ai p1, .sl (flat tmCells p2) (List.length p2) .no] (tmA r) [] 0) : CT Tryz.prog 64 [] [ai p0, ai p1, .sl (flat tmCells p2) (List.length p2) .no] (tmA r) [] 0 := ⟨h, ⟨trivial, trivial, ⟨trivial, dT _⟩, trivial⟩, forall_nil, ⟨trivial, trivial, dT _, trivial⟩, forall_nil⟩
theorem c64 {qq : Nat} {p0 : Int} {p1 : Int} {p2 : List Tm} {r : Tm} (h : e64 qq p0 p1 p2 = some r) : CT Tryz.prog 64 [] [ai p0, ai p1, .sl (flat tmCells p2) (List.length p2) .no] (tmA r) [] 0 := by
  unfold e64 at h
  obtain rfl := sj h
  exact k64 (tF q64 1 [] (oD (dT p2) o0) (by kernel_rfl))

end Go.Proofs.YtlbmblbeccafcaaGreat

namespace Go.Proofs.YtlbmblbeccafcaaGreat
open Go Go.Ab

/- scholium/scholiumref12.E -/
def e32 (qq : Nat) (p0 : Int) (p1 : Int) : Option (Tm) :=
  (e26 qq p1) >>= fun r1 =>
  (e64 qq 7 p0 [r1]) >>= fun r3 =>
  some r3
theorem q32 : Tryz.prog.funcs[32]? = some Tryz.f32 ∧ Tryz.f32.body.isNone = false := ⟨Tryz.func32, by kernel_rfl⟩
theorem k32 {p0 : Int} {p1 : Int} {r : Tm} (h : CTri Tryz.prog 32 [] [ai p0, ai p1] (tmA r) [] 0) : CT Tryz.prog 32 [] [ai p0, ai p1] (tmA r) [] 0 := ⟨h, ⟨trivial, trivial, trivial⟩, forall_nil, ⟨trivial, trivial, dT _, trivial⟩, forall_nil⟩
theorem c32 {qq : Nat} {p0 : Int} {p1 : Int} {r : Tm} (h : e32 qq p0 p1 = some r) : CT Tryz.prog 32 [] [ai p0, ai p1] (tmA r) [] 0 := by
  unfold e32 at h
  obtain ⟨r1, h2, h⟩ := obind h
  obtain ⟨r3, h4, h⟩ := obind h
  obtain rfl := sj h
  exact k32 (tF q32 1 [] (oD (dT r3.sub) <| oC 0 [] (c64 h4) <| oS 0 (obLitR tm_eq [r1]) <| oC 0 [] (c26 h2) o0) (by kernel_rfl))

end Go.Proofs.YtlbmblbeccafcaaGreat

namespace Go.Proofs.YtlbmblbeccafcaaGreat
open Go Go.Ab

/- scholium/scholiumref12.con -/
def e33 (qq : Nat) (p0 : ByteArray) (p1 : Tm) (p2 : Int) (p3 : Int) (p4 : Int) : Option (Ent) :=
  some (Ent.mk 2 p0 p1 (Tm.mk 0 0 []) p2 p3 p4 0 0 [] [])
theorem q33 : Tryz.prog.funcs[33]? = some Tryz.f33 ∧ Tryz.f33.body.isNone = false := ⟨Tryz.func33, by kernel_rfl⟩
theorem k33 {p0 : ByteArray} {p1 : Tm} {p2 : Int} {p3 : Int} {p4 : Int} {r : Ent} (h : CTri Tryz.prog 33 [] [at' p0, tmA p1, ai p2, ai p3, ai p4] (entA r) [] 0) : CT Tryz.prog 33 [] [at' p0, tmA p1, ai p2, ai p3, ai p4] (entA r) [] 0 := ⟨h, ⟨trivial, ⟨trivial, trivial, ⟨trivial, dT _⟩, trivial⟩, trivial, trivial, trivial, trivial⟩, forall_nil, ⟨trivial, trivial, trivial, trivial, dT _, trivial, trivial, dT _, trivial, trivial, trivial, trivial, trivial, dI _, dI _, trivial⟩, forall_nil⟩
theorem c33 {qq : Nat} {p0 : ByteArray} {p1 : Tm} {p2 : Int} {p3 : Int} {p4 : Int} {r : Ent} (h : e33 qq p0 p1 p2 p3 p4 = some r) : CT Tryz.prog 33 [] [at' p0, tmA p1, ai p2, ai p3, ai p4] (entA r) [] 0 := by
  unfold e33 at h
  obtain rfl := sj h
  exact k33 (tF q33 2 [] (oD (dI ([] : List Int)) <| oD (dI ([] : List Int)) <| oD (dT ([] : List Tm)) <| oD (dT p1.sub) o0) (by kernel_rfl))

end Go.Proofs.YtlbmblbeccafcaaGreat

namespace Go.Proofs.YtlbmblbeccafcaaGreat
open Go Go.Ab

/- scholium/scholiumref12.proj -/
def e34 (qq : Nat) (p0 : ByteArray) (p1 : Tm) (p2 : Int) : Option (Ent) :=
  some (Ent.mk 4 p0 p1 (Tm.mk 0 0 []) 14 p2 2 0 0 [] [])
theorem q34 : Tryz.prog.funcs[34]? = some Tryz.f34 ∧ Tryz.f34.body.isNone = false := ⟨Tryz.func34, by kernel_rfl⟩
theorem k34 {p0 : ByteArray} {p1 : Tm} {p2 : Int} {r : Ent} (h : CTri Tryz.prog 34 [] [at' p0, tmA p1, ai p2] (entA r) [] 0) : CT Tryz.prog 34 [] [at' p0, tmA p1, ai p2] (entA r) [] 0 := ⟨h, ⟨trivial, ⟨trivial, trivial, ⟨trivial, dT _⟩, trivial⟩, trivial, trivial⟩, forall_nil, ⟨trivial, trivial, trivial, trivial, dT _, trivial, trivial, dT _, trivial, trivial, trivial, trivial, trivial, dI _, dI _, trivial⟩, forall_nil⟩
theorem c34 {qq : Nat} {p0 : ByteArray} {p1 : Tm} {p2 : Int} {r : Ent} (h : e34 qq p0 p1 p2 = some r) : CT Tryz.prog 34 [] [at' p0, tmA p1, ai p2] (entA r) [] 0 := by
  unfold e34 at h
  obtain rfl := sj h
  exact k34 (tF q34 2 [] (oD (dI ([] : List Int)) <| oD (dI ([] : List Int)) <| oD (dT ([] : List Tm)) <| oD (dT p1.sub) o0) (by kernel_rfl))

end Go.Proofs.YtlbmblbeccafcaaGreat

namespace Go.Proofs.YtlbmblbeccafcaaGreat
open Go Go.Ab

/- scholium/scholiumref12.Base -/
def e9 (qq : Nat)  : Option (List Ent) :=
  (e16 qq 0) >>= fun r1 =>
  (e26 qq 0) >>= fun r3 =>
  (e26 qq 0) >>= fun r5 =>
  (e26 qq 0) >>= fun r7 =>
  (e22 qq r5 r7) >>= fun r9 =>
  (e22 qq r3 r9) >>= fun r11 =>
  (e29 qq (⟨#[80, 97, 105, 114]⟩ : ByteArray) r11 2 0 [15]) >>= fun r13 =>
  (e16 qq 14) >>= fun r15 =>
  (e30 qq 1) >>= fun r17 =>
  (e30 qq 0) >>= fun r19 =>
  (e23 qq r15 [r17, r19]) >>= fun r21 =>
  (e32 qq 0 0) >>= fun r23 =>
  (e31 qq r1 r1) >>= fun r25 =>
  (e30 qq 0) >>= fun r27 =>
  (e16 qq 2) >>= fun r29 =>
  (e30 qq 0) >>= fun r31 =>
  (e23 qq r29 [r31]) >>= fun r33 =>
  (e31 qq r1 r33) >>= fun r35 =>
  (e31 qq r1 r35) >>= fun r37 =>
  (e30 qq 1) >>= fun r39 =>
  (e23 qq r23 [r25, r27, r37, r39]) >>= fun r41 =>
  (e31 qq r1 r41) >>= fun r43 =>
  (e31 qq r1 r43) >>= fun r45 =>
  (e26 qq 0) >>= fun r47 =>
  (e29 qq (⟨#[78, 97, 116]⟩ : ByteArray) r47 0 0 [1, 2]) >>= fun r49 =>
  (e33 qq (⟨#[122, 101, 114, 111]⟩ : ByteArray) r1 0 0 0) >>= fun r51 =>
  (e22 qq r1 r1) >>= fun r53 =>
  (e33 qq (⟨#[115, 117, 99]⟩ : ByteArray) r53 0 1 0) >>= fun r55 =>
  (e26 qq 0) >>= fun r57 =>
  (e29 qq (⟨#[66, 111, 111, 108]⟩ : ByteArray) r57 0 0 [4, 5]) >>= fun r59 =>
  (e16 qq 3) >>= fun r61 =>
  (e33 qq (⟨#[116, 114, 117, 101]⟩ : ByteArray) r61 3 0 0) >>= fun r63 =>
  (e16 qq 3) >>= fun r65 =>
  (e33 qq (⟨#[102, 97, 108, 115, 101]⟩ : ByteArray) r65 3 1 0) >>= fun r67 =>
  (e26 qq 0) >>= fun r69 =>
  (e26 qq 0) >>= fun r71 =>
  (e22 qq r69 r71) >>= fun r73 =>
  (e29 qq (⟨#[76, 105, 115, 116]⟩ : ByteArray) r73 1 0 [7, 8]) >>= fun r75 =>
  (e26 qq 0) >>= fun r77 =>
  (e16 qq 6) >>= fun r79 =>
  (e30 qq 0) >>= fun r81 =>
  (e23 qq r79 [r81]) >>= fun r83 =>
  (e22 qq r77 r83) >>= fun r85 =>
  (e33 qq (⟨#[110, 105, 108]⟩ : ByteArray) r85 6 0 1) >>= fun r87 =>
  (e26 qq 0) >>= fun r89 =>
  (e30 qq 0) >>= fun r91 =>
  (e16 qq 6) >>= fun r93 =>
  (e30 qq 1) >>= fun r95 =>
  (e23 qq r93 [r95]) >>= fun r97 =>
  (e16 qq 6) >>= fun r99 =>
  (e30 qq 2) >>= fun r101 =>
  (e23 qq r99 [r101]) >>= fun r103 =>
  (e22 qq r97 r103) >>= fun r105 =>
  (e22 qq r91 r105) >>= fun r107 =>
  (e22 qq r89 r107) >>= fun r109 =>
  (e33 qq (⟨#[99, 111, 110, 115]⟩ : ByteArray) r109 6 1 1) >>= fun r111 =>
  (e26 qq 0) >>= fun r113 =>
  (e26 qq 0) >>= fun r115 =>
  (e22 qq r1 r115) >>= fun r117 =>
  (e22 qq r113 r117) >>= fun r119 =>
  (e29 qq (⟨#[86, 101, 99]⟩ : ByteArray) r119 1 1 [10, 11]) >>= fun r121 =>
  (e26 qq 0) >>= fun r123 =>
  (e16 qq 9) >>= fun r125 =>
  (e30 qq 0) >>= fun r127 =>
  (e16 qq 1) >>= fun r129 =>
  (e23 qq r125 [r127, r129]) >>= fun r131 =>
  (e22 qq r123 r131) >>= fun r133 =>
  (e33 qq (⟨#[118, 110, 105, 108]⟩ : ByteArray) r133 9 0 1) >>= fun r135 =>
  (e26 qq 0) >>= fun r137 =>
  (e30 qq 1) >>= fun r139 =>
  (e16 qq 9) >>= fun r141 =>
  (e30 qq 2) >>= fun r143 =>
  (e30 qq 1) >>= fun r145 =>
  (e23 qq r141 [r143, r145]) >>= fun r147 =>
  (e16 qq 9) >>= fun r149 =>
  (e30 qq 3) >>= fun r151 =>
  (e16 qq 2) >>= fun r153 =>
  (e30 qq 2) >>= fun r155 =>
  (e23 qq r153 [r155]) >>= fun r157 =>
  (e23 qq r149 [r151, r157]) >>= fun r159 =>
  (e22 qq r147 r159) >>= fun r161 =>
  (e22 qq r139 r161) >>= fun r163 =>
  (e22 qq r1 r163) >>= fun r165 =>
  (e22 qq r137 r165) >>= fun r167 =>
  (e33 qq (⟨#[118, 99, 111, 110, 115]⟩ : ByteArray) r167 9 1 1) >>= fun r169 =>
  (e26 qq 0) >>= fun r171 =>
  (e30 qq 0) >>= fun r173 =>
  (e30 qq 1) >>= fun r175 =>
  (e26 qq 0) >>= fun r177 =>
  (e22 qq r175 r177) >>= fun r179 =>
  (e22 qq r173 r179) >>= fun r181 =>
  (e22 qq r171 r181) >>= fun r183 =>
  (e29 qq (⟨#[69, 113]⟩ : ByteArray) r183 2 1 [13]) >>= fun r185 =>
  (e26 qq 0) >>= fun r187 =>
  (e30 qq 0) >>= fun r189 =>
  (e16 qq 12) >>= fun r191 =>
  (e30 qq 1) >>= fun r193 =>
  (e30 qq 0) >>= fun r195 =>
  (e30 qq 0) >>= fun r197 =>
  (e23 qq r191 [r193, r195, r197]) >>= fun r199 =>
  (e22 qq r189 r199) >>= fun r201 =>
  (e22 qq r187 r201) >>= fun r203 =>
  (e33 qq (⟨#[114, 101, 102, 108]⟩ : ByteArray) r203 12 0 2) >>= fun r205 =>
  (e26 qq 0) >>= fun r207 =>
  (e26 qq 0) >>= fun r209 =>
  (e30 qq 1) >>= fun r211 =>
  (e30 qq 1) >>= fun r213 =>
  (e16 qq 14) >>= fun r215 =>
  (e30 qq 3) >>= fun r217 =>
  (e30 qq 2) >>= fun r219 =>
  (e23 qq r215 [r217, r219]) >>= fun r221 =>
  (e22 qq r213 r221) >>= fun r223 =>
  (e22 qq r211 r223) >>= fun r225 =>
  (e22 qq r209 r225) >>= fun r227 =>
  (e22 qq r207 r227) >>= fun r229 =>
  (e33 qq (⟨#[112, 97, 105, 114]⟩ : ByteArray) r229 14 0 2) >>= fun r231 =>
  (e26 qq 0) >>= fun r233 =>
  (e26 qq 0) >>= fun r235 =>
  (e30 qq 2) >>= fun r237 =>
  (e22 qq r21 r237) >>= fun r239 =>
  (e22 qq r235 r239) >>= fun r241 =>
  (e22 qq r233 r241) >>= fun r243 =>
  (e34 qq (⟨#[102, 115, 116]⟩ : ByteArray) r243 0) >>= fun r245 =>
  (e26 qq 0) >>= fun r247 =>
  (e26 qq 0) >>= fun r249 =>
  (e30 qq 1) >>= fun r251 =>
  (e22 qq r21 r251) >>= fun r253 =>
  (e22 qq r249 r253) >>= fun r255 =>
  (e22 qq r247 r255) >>= fun r257 =>
  (e34 qq (⟨#[115, 110, 100]⟩ : ByteArray) r257 1) >>= fun r259 =>
  (e26 qq 0) >>= fun r261 =>
  (e29 qq (⟨#[84, 114, 101, 101]⟩ : ByteArray) r261 0 0 [19, 20]) >>= fun r263 =>
  (e16 qq 18) >>= fun r265 =>
  (e33 qq (⟨#[108, 101, 97, 102]⟩ : ByteArray) r265 18 0 0) >>= fun r267 =>
  (e16 qq 18) >>= fun r269 =>
  (e22 qq r1 r269) >>= fun r271 =>
  (e16 qq 18) >>= fun r273 =>
  (e22 qq r271 r273) >>= fun r275 =>
  (e33 qq (⟨#[110, 111, 100, 101]⟩ : ByteArray) r275 18 1 0) >>= fun r277 =>
  (e22 qq r1 r1) >>= fun r279 =>
  (e22 qq r1 r279) >>= fun r281 =>
  (e26 qq 0) >>= fun r283 =>
  (e30 qq 0) >>= fun r285 =>
  (e30 qq 1) >>= fun r287 =>
  (e22 qq r285 r287) >>= fun r289 =>
  (e22 qq r283 r289) >>= fun r291 =>
  (e26 qq 0) >>= fun r293 =>
  (e30 qq 0) >>= fun r295 =>
  (e30 qq 0) >>= fun r297 =>
  (e31 qq r295 r297) >>= fun r299 =>
  (e31 qq r293 r299) >>= fun r301 =>
  some [r49, r51, r55, r59, r63, r67, r75, r87, r111, r121, r135, r169, r185, r205, (Ent.mk r13.kind r13.name r13.type r13.body r13.fam r13.place r13.pars r13.inds r13.level r13.cons [16, 17]), r231, r245, r259, r263, r267, r277, (Ent.mk 3 (⟨#[112, 108, 117, 115]⟩ : ByteArray) r281 r45 0 0 0 0 0 [] []), (Ent.mk 3 (⟨#[105, 100]⟩ : ByteArray) r291 r301 0 0 0 0 0 [] [])]
theorem q9 : Tryz.prog.funcs[9]? = some Tryz.f9 ∧ Tryz.f9.body.isNone = false := ⟨Tryz.func9, by kernel_rfl⟩
theorem k9  {r : List Ent} (h : CTri Tryz.prog 9 [] [] (.sl (flat entL r) (List.length r) .no) [] 0) : CT Tryz.prog 9 [] [] (.sl (flat entL r) (List.length r) .no) [] 0 := ⟨h, trivial, forall_nil, dE _, forall_nil⟩
theorem c9 {qq : Nat}  {r : List Ent} (h : e9 qq  = some r) : CT Tryz.prog 9 [] [] (.sl (flat entL r) (List.length r) .no) [] 0 := by
  unfold e9 at h
  obtain ⟨r1, h2, h⟩ := obind h
  obtain ⟨r3, h4, h⟩ := obind h
  obtain ⟨r5, h6, h⟩ := obind h
  obtain ⟨r7, h8, h⟩ := obind h
  obtain ⟨r9, h10, h⟩ := obind h
  obtain ⟨r11, h12, h⟩ := obind h
  obtain ⟨r13, h14, h⟩ := obind h
  obtain ⟨r15, h16, h⟩ := obind h
  obtain ⟨r17, h18, h⟩ := obind h
  obtain ⟨r19, h20, h⟩ := obind h
  obtain ⟨r21, h22, h⟩ := obind h
  obtain ⟨r23, h24, h⟩ := obind h
  obtain ⟨r25, h26, h⟩ := obind h
  obtain ⟨r27, h28, h⟩ := obind h
  obtain ⟨r29, h30, h⟩ := obind h
  obtain ⟨r31, h32, h⟩ := obind h
  obtain ⟨r33, h34, h⟩ := obind h
  obtain ⟨r35, h36, h⟩ := obind h
  obtain ⟨r37, h38, h⟩ := obind h
  obtain ⟨r39, h40, h⟩ := obind h
  obtain ⟨r41, h42, h⟩ := obind h
  obtain ⟨r43, h44, h⟩ := obind h
  obtain ⟨r45, h46, h⟩ := obind h
  obtain ⟨r47, h48, h⟩ := obind h
  obtain ⟨r49, h50, h⟩ := obind h
  obtain ⟨r51, h52, h⟩ := obind h
  obtain ⟨r53, h54, h⟩ := obind h
  obtain ⟨r55, h56, h⟩ := obind h
  obtain ⟨r57, h58, h⟩ := obind h
  obtain ⟨r59, h60, h⟩ := obind h
  obtain ⟨r61, h62, h⟩ := obind h
  obtain ⟨r63, h64, h⟩ := obind h
  obtain ⟨r65, h66, h⟩ := obind h
  obtain ⟨r67, h68, h⟩ := obind h
  obtain ⟨r69, h70, h⟩ := obind h
  obtain ⟨r71, h72, h⟩ := obind h
  obtain ⟨r73, h74, h⟩ := obind h
  obtain ⟨r75, h76, h⟩ := obind h
  obtain ⟨r77, h78, h⟩ := obind h
  obtain ⟨r79, h80, h⟩ := obind h
  obtain ⟨r81, h82, h⟩ := obind h
  obtain ⟨r83, h84, h⟩ := obind h
  obtain ⟨r85, h86, h⟩ := obind h
  obtain ⟨r87, h88, h⟩ := obind h
  obtain ⟨r89, h90, h⟩ := obind h
  obtain ⟨r91, h92, h⟩ := obind h
  obtain ⟨r93, h94, h⟩ := obind h
  obtain ⟨r95, h96, h⟩ := obind h
  obtain ⟨r97, h98, h⟩ := obind h
  obtain ⟨r99, h100, h⟩ := obind h
  obtain ⟨r101, h102, h⟩ := obind h
  obtain ⟨r103, h104, h⟩ := obind h
  obtain ⟨r105, h106, h⟩ := obind h
  obtain ⟨r107, h108, h⟩ := obind h
  obtain ⟨r109, h110, h⟩ := obind h
  obtain ⟨r111, h112, h⟩ := obind h
  obtain ⟨r113, h114, h⟩ := obind h
  obtain ⟨r115, h116, h⟩ := obind h
  obtain ⟨r117, h118, h⟩ := obind h
  obtain ⟨r119, h120, h⟩ := obind h
  obtain ⟨r121, h122, h⟩ := obind h
  obtain ⟨r123, h124, h⟩ := obind h
  obtain ⟨r125, h126, h⟩ := obind h
  obtain ⟨r127, h128, h⟩ := obind h
  obtain ⟨r129, h130, h⟩ := obind h
  obtain ⟨r131, h132, h⟩ := obind h
  obtain ⟨r133, h134, h⟩ := obind h
  obtain ⟨r135, h136, h⟩ := obind h
  obtain ⟨r137, h138, h⟩ := obind h
  obtain ⟨r139, h140, h⟩ := obind h
  obtain ⟨r141, h142, h⟩ := obind h
  obtain ⟨r143, h144, h⟩ := obind h
  obtain ⟨r145, h146, h⟩ := obind h
  obtain ⟨r147, h148, h⟩ := obind h
  obtain ⟨r149, h150, h⟩ := obind h
  obtain ⟨r151, h152, h⟩ := obind h
  obtain ⟨r153, h154, h⟩ := obind h
  obtain ⟨r155, h156, h⟩ := obind h
  obtain ⟨r157, h158, h⟩ := obind h
  obtain ⟨r159, h160, h⟩ := obind h
  obtain ⟨r161, h162, h⟩ := obind h
  obtain ⟨r163, h164, h⟩ := obind h
  obtain ⟨r165, h166, h⟩ := obind h
  obtain ⟨r167, h168, h⟩ := obind h
  obtain ⟨r169, h170, h⟩ := obind h
  obtain ⟨r171, h172, h⟩ := obind h
  obtain ⟨r173, h174, h⟩ := obind h
  obtain ⟨r175, h176, h⟩ := obind h
  obtain ⟨r177, h178, h⟩ := obind h
  obtain ⟨r179, h180, h⟩ := obind h
  obtain ⟨r181, h182, h⟩ := obind h
  obtain ⟨r183, h184, h⟩ := obind h
  obtain ⟨r185, h186, h⟩ := obind h
  obtain ⟨r187, h188, h⟩ := obind h
  obtain ⟨r189, h190, h⟩ := obind h
  obtain ⟨r191, h192, h⟩ := obind h
  obtain ⟨r193, h194, h⟩ := obind h
  obtain ⟨r195, h196, h⟩ := obind h
  obtain ⟨r197, h198, h⟩ := obind h
  obtain ⟨r199, h200, h⟩ := obind h
  obtain ⟨r201, h202, h⟩ := obind h
  obtain ⟨r203, h204, h⟩ := obind h
  obtain ⟨r205, h206, h⟩ := obind h
  obtain ⟨r207, h208, h⟩ := obind h
  obtain ⟨r209, h210, h⟩ := obind h
  obtain ⟨r211, h212, h⟩ := obind h
  obtain ⟨r213, h214, h⟩ := obind h
  obtain ⟨r215, h216, h⟩ := obind h
  obtain ⟨r217, h218, h⟩ := obind h
  obtain ⟨r219, h220, h⟩ := obind h
  obtain ⟨r221, h222, h⟩ := obind h
  obtain ⟨r223, h224, h⟩ := obind h
  obtain ⟨r225, h226, h⟩ := obind h
  obtain ⟨r227, h228, h⟩ := obind h
  obtain ⟨r229, h230, h⟩ := obind h
  obtain ⟨r231, h232, h⟩ := obind h
  obtain ⟨r233, h234, h⟩ := obind h
  obtain ⟨r235, h236, h⟩ := obind h
  obtain ⟨r237, h238, h⟩ := obind h
  obtain ⟨r239, h240, h⟩ := obind h
  obtain ⟨r241, h242, h⟩ := obind h
  obtain ⟨r243, h244, h⟩ := obind h
  obtain ⟨r245, h246, h⟩ := obind h
  obtain ⟨r247, h248, h⟩ := obind h
  obtain ⟨r249, h250, h⟩ := obind h
  obtain ⟨r251, h252, h⟩ := obind h
  obtain ⟨r253, h254, h⟩ := obind h
  obtain ⟨r255, h256, h⟩ := obind h
  obtain ⟨r257, h258, h⟩ := obind h
  obtain ⟨r259, h260, h⟩ := obind h
  obtain ⟨r261, h262, h⟩ := obind h
  obtain ⟨r263, h264, h⟩ := obind h
  obtain ⟨r265, h266, h⟩ := obind h
  obtain ⟨r267, h268, h⟩ := obind h
  obtain ⟨r269, h270, h⟩ := obind h
  obtain ⟨r271, h272, h⟩ := obind h
  obtain ⟨r273, h274, h⟩ := obind h
  obtain ⟨r275, h276, h⟩ := obind h
  obtain ⟨r277, h278, h⟩ := obind h
  obtain ⟨r279, h280, h⟩ := obind h
  obtain ⟨r281, h282, h⟩ := obind h
  obtain ⟨r283, h284, h⟩ := obind h
  obtain ⟨r285, h286, h⟩ := obind h
  obtain ⟨r287, h288, h⟩ := obind h
  obtain ⟨r289, h290, h⟩ := obind h
  obtain ⟨r291, h292, h⟩ := obind h
  obtain ⟨r293, h294, h⟩ := obind h
  obtain ⟨r295, h296, h⟩ := obind h
  obtain ⟨r297, h298, h⟩ := obind h
  obtain ⟨r299, h300, h⟩ := obind h
  obtain ⟨r301, h302, h⟩ := obind h
  obtain rfl := sj h
  exact k9 (tF q9 1 [] (oD (dE [r49, r51, r55, r59, r63, r67, r75, r87, r111, r121, r135, r169, r185, r205, (Ent.mk r13.kind r13.name r13.type r13.body r13.fam r13.place r13.pars r13.inds r13.level r13.cons [16, 17]), r231, r245, r259, r263, r267, r277, (Ent.mk 3 (⟨#[112, 108, 117, 115]⟩ : ByteArray) r281 r45 0 0 0 0 0 [] []), (Ent.mk 3 (⟨#[105, 100]⟩ : ByteArray) r291 r301 0 0 0 0 0 [] [])]) <| oC 0 [] (c31 h302) <| oC 0 [] (c31 h300) <| oC 0 [] (c30 h298) <| oC 0 [] (c30 h296) <| oC 0 [] (c26 h294) <| oC 0 [] (c22 h292) <| oC 0 [] (c22 h290) <| oC 0 [] (c30 h288) <| oC 0 [] (c30 h286) <| oC 1 [] (c26 h284) <| oC 0 [] (c22 h282) <| oC 3 [] (c22 h280) <| oC 0 [] (c33 h278) <| oC 0 [] (c22 h276) <| oC 0 [] (c16 h274) <| oC 0 [] (c22 h272) <| oC 1 [] (c16 h270) <| oC 0 [] (c33 h268) <| oC 0 [] (c16 h266) <| oC 1 [] (c29 h264) <| oC 0 [] (c26 h262) <| oC 0 [] (c34 h260) <| oC 0 [] (c22 h258) <| oC 0 [] (c22 h256) <| oC 0 [] (c22 h254) <| oC 1 [] (c30 h252) <| oC 0 [] (c26 h250) <| oC 0 [] (c26 h248) <| oC 0 [] (c34 h246) <| oC 0 [] (c22 h244) <| oC 0 [] (c22 h242) <| oC 0 [] (c22 h240) <| oC 1 [] (c30 h238) <| oC 0 [] (c26 h236) <| oC 0 [] (c26 h234) <| oC 0 [] (c33 h232) <| oC 0 [] (c22 h230) <| oC 0 [] (c22 h228) <| oC 0 [] (c22 h226) <| oC 0 [] (c22 h224) <| oC 0 [] (c23 h222) <| oS 0 (obLitR tm_eq [r217, r219]) <| oC 0 [] (c30 h220) <| oC 0 [] (c30 h218) <| oC 0 [] (c16 h216) <| oC 0 [] (c30 h214) <| oC 0 [] (c30 h212) <| oC 0 [] (c26 h210) <| oC 1 [] (c26 h208) <| oC 0 [] (c33 h206) <| oC 0 [] (c22 h204) <| oC 0 [] (c22 h202) <| oC 0 [] (c23 h200) <| oS 0 (obLitR tm_eq [r193, r195, r197]) <| oC 0 [] (c30 h198) <| oC 0 [] (c30 h196) <| oC 0 [] (c30 h194) <| oC 0 [] (c16 h192) <| oC 0 [] (c30 h190) <| oC 0 [] (c26 h188) <| oC 1 [] (c29 h186) <| oC 0 [] (c22 h184) <| oC 0 [] (c22 h182) <| oC 0 [] (c22 h180) <| oC 0 [] (c26 h178) <| oC 0 [] (c30 h176) <| oC 0 [] (c30 h174) <| oC 0 [] (c26 h172) <| oC 0 [] (c33 h170) <| oC 0 [] (c22 h168) <| oC 0 [] (c22 h166) <| oC 0 [] (c22 h164) <| oC 0 [] (c22 h162) <| oC 0 [] (c23 h160) <| oS 0 (obLitR tm_eq [r151, r157]) <| oC 0 [] (c23 h158) <| oS 0 (obLitR tm_eq [r155]) <| oC 0 [] (c30 h156) <| oC 0 [] (c16 h154) <| oC 0 [] (c30 h152) <| oC 0 [] (c16 h150) <| oC 0 [] (c23 h148) <| oS 0 (obLitR tm_eq [r143, r145]) <| oC 0 [] (c30 h146) <| oC 0 [] (c30 h144) <| oC 0 [] (c16 h142) <| oC 1 [] (c30 h140) <| oC 0 [] (c26 h138) <| oC 0 [] (c33 h136) <| oC 0 [] (c22 h134) <| oC 0 [] (c23 h132) <| oS 0 (obLitR tm_eq [r127, r129]) <| oC 0 [] (c16 h130) <| oC 0 [] (c30 h128) <| oC 0 [] (c16 h126) <| oC 0 [] (c26 h124) <| oC 1 [] (c29 h122) <| oC 0 [] (c22 h120) <| oC 0 [] (c22 h118) <| oC 1 [] (c26 h116) <| oC 0 [] (c26 h114) <| oC 0 [] (c33 h112) <| oC 0 [] (c22 h110) <| oC 0 [] (c22 h108) <| oC 0 [] (c22 h106) <| oC 0 [] (c23 h104) <| oS 0 (obLitR tm_eq [r101]) <| oC 0 [] (c30 h102) <| oC 0 [] (c16 h100) <| oC 0 [] (c23 h98) <| oS 0 (obLitR tm_eq [r95]) <| oC 0 [] (c30 h96) <| oC 0 [] (c16 h94) <| oC 0 [] (c30 h92) <| oC 0 [] (c26 h90) <| oC 0 [] (c33 h88) <| oC 0 [] (c22 h86) <| oC 0 [] (c23 h84) <| oS 0 (obLitR tm_eq [r81]) <| oC 0 [] (c30 h82) <| oC 0 [] (c16 h80) <| oC 0 [] (c26 h78) <| oC 1 [] (c29 h76) <| oC 0 [] (c22 h74) <| oC 0 [] (c26 h72) <| oC 0 [] (c26 h70) <| oC 0 [] (c33 h68) <| oC 0 [] (c16 h66) <| oC 0 [] (c33 h64) <| oC 0 [] (c16 h62) <| oC 1 [] (c29 h60) <| oC 0 [] (c26 h58) <| oC 0 [] (c33 h56) <| oC 2 [] (c22 h54) <| oC 1 [] (c33 h52) <| oC 1 [] (c29 h50) <| oC 1 [] (c26 h48) <| oC 0 [] (c31 h46) <| oC 0 [] (c31 h44) <| oC 0 [] (c23 h42) <| oS 0 (obLitR tm_eq [r25, r27, r37, r39]) <| oC 0 [] (c30 h40) <| oC 0 [] (c31 h38) <| oC 0 [] (c31 h36) <| oC 0 [] (c23 h34) <| oS 0 (obLitR tm_eq [r31]) <| oC 0 [] (c30 h32) <| oC 2 [] (c16 h30) <| oC 0 [] (c30 h28) <| oC 2 [] (c31 h26) <| oC 3 [] (c32 h24) <| oC 0 [] (c23 h22) <| oS 0 (obLitR tm_eq [r17, r19]) <| oC 0 [] (c30 h20) <| oC 0 [] (c30 h18) <| oC 3 [] (c16 h16) <| oC 1 [] (c29 h14) <| oC 0 [] (c22 h12) <| oC 0 [] (c22 h10) <| oC 0 [] (c26 h8) <| oC 0 [] (c26 h6) <| oC 1 [] (c26 h4) <| oC 0 [] (c16 h2) o0) (by kernel_rfl))

end Go.Proofs.YtlbmblbeccafcaaGreat

namespace Go.Proofs.YtlbmblbeccafcaaGreat
open Go Go.Ab

/- scholium/scholiumlaw25.awake -/
def e24 (qq : Nat)  : Option (Bool) :=
  (e9 qq) >>= fun r1 =>
  (e11 qq r1) >>= fun r3 =>
  (e12 qq 50) >>= fun r5 =>
  (e16 qq 0) >>= fun r7 =>
  (e21 qq (Mach.mk r3.2.1 r3.2.2.2.2.1 r3.2.2.2.2.2 r3.2.2.1 r3.2.2.2.1) [(FreeVar.mk 4 r7)] 4 r5.2.1 r5.2.2) >>= fun r9 =>
  match r9 with
  | Sum.inl y11 =>
    if (y11.2.1 == 0) = true then
      if ((List.length y11.1 : Int) == 2) = true then
        (gidx y11.1 1) >>= fun x14 =>
        if x14.yes_ = true then
          if ((List.length x14.args_ : Int) == 1) = true then
            (gidx x14.args_ 0) >>= fun x18 =>
            some (x18 == 5)
          else
            none
        else
          none
      else
        none
    else
      none
  | Sum.inr y20 =>
    if (y20.2.1 == 0) = true then
      if ((List.length y20.1 : Int) == 2) = true then
        (gidx y20.1 1) >>= fun x23 =>
        if x23.yes_ = true then
          if ((List.length x23.args_ : Int) == 1) = true then
            (gidx x23.args_ 0) >>= fun x27 =>
            some (x27 == 5)
          else
            none
        else
          none
      else
        none
    else
      none
theorem q24 : Tryz.prog.funcs[24]? = some Tryz.f24 ∧ Tryz.f24.body.isNone = false := ⟨Tryz.func24, by kernel_rfl⟩
theorem k24  {r : Bool} (h : CTri Tryz.prog 24 [] [] (ab r) [] 0) : CT Tryz.prog 24 [] [] (ab r) [] 0 := ⟨h, trivial, forall_nil, trivial, forall_nil⟩
theorem c24 {qq : Nat}  {r : Bool} (h : e24 qq  = some r) : CT Tryz.prog 24 [] [] (ab r) [] 0 := by
  unfold e24 at h
  obtain ⟨r1, h2, h⟩ := obind h
  obtain ⟨r3, h4, h⟩ := obind h
  obtain ⟨r5, h6, h⟩ := obind h
  obtain ⟨r7, h8, h⟩ := obind h
  obtain ⟨r9, h10, h⟩ := obind h
  have k := oC 2 [] (c16 h8) <| oC 2 [] (c12 h6) <| oC 0 [] (c11 h4) <| oC 0 [] (c9 h2) o0
  rcases r9 with y11 | y20
  · dsimp only at h
    have k := oC 1 [0, 1, 2] (c21 h10) k
    obtain ⟨h12, h⟩ := splT h
    have k := oB 2 h12 k
    obtain ⟨h13, h⟩ := splT h
    obtain ⟨x14, h15, h⟩ := obind h
    have k := oA 0 (ix60 (o := .no) h15) <| oB 1 h13 k
    obtain ⟨h16, h⟩ := splT h
    have k := oA 0 (ix60 (o := .no) h15) <| oB 0 h16 k
    obtain ⟨h17, h⟩ := splT h
    obtain ⟨x18, h19, h⟩ := obind h
    obtain rfl := sj h
    exact k24 (tF q24 2 [] (oA 1 (ix37 (o := .no) h19) <| oA 0 (ix60 (o := .no) h15) <| oB 2 h17 k) (by kernel_rfl))
  · dsimp only at h
    have k := oC 1 [0, 1, 2] (c21 h10) k
    obtain ⟨h21, h⟩ := splT h
    have k := oB 2 h21 k
    obtain ⟨h22, h⟩ := splT h
    obtain ⟨x23, h24, h⟩ := obind h
    have k := oA 0 (ix60 (o := .no) h24) <| oB 1 h22 k
    obtain ⟨h25, h⟩ := splT h
    have k := oA 0 (ix60 (o := .no) h24) <| oB 0 h25 k
    obtain ⟨h26, h⟩ := splT h
    obtain ⟨x27, h28, h⟩ := obind h
    obtain rfl := sj h
    exact k24 (tF q24 2 [] (oA 1 (ix37 (o := .no) h28) <| oA 0 (ix60 (o := .no) h24) <| oB 2 h26 k) (by kernel_rfl))

end Go.Proofs.YtlbmblbeccafcaaGreat

namespace Go.Proofs.YtlbmblbeccafcaaGreat
open Go Go.Ab

/- scholium/scholiumlaw25.SplitNone -/
def e5 (qq : Nat) (p0 : U8) : Option (Bool) :=
  (e9 qq) >>= fun r1 =>
  (e11 qq r1) >>= fun r3 =>
  (e12 qq 500) >>= fun r5 =>
  (e16 qq 0) >>= fun r7 =>
  (e21va65405 qq [] (w64 (p0)) r5.2.1 r5.2.2) >>= fun r9 =>
  (e21 qq (Mach.mk r3.2.1 r3.2.2.2.2.1 r3.2.2.2.2.2 r3.2.2.1 r3.2.2.2.1) [] (w64 (p0)) r5.2.1 r5.2.2) >>= fun r11 =>
  match r11 with
  | Sum.inl y13 =>
    (e22 qq r7 r7) >>= fun r14 =>
    (e21 qq (Mach.mk r3.2.1 r3.2.2.2.2.1 r3.2.2.2.2.2 r3.2.2.1 r3.2.2.2.1) [(FreeVar.mk (w64 (p0)) r14)] (w64 (p0)) y13.2.2.1 y13.2.2.2) >>= fun r16 =>
    match r16 with
    | Sum.inl y18 =>
      (e16 qq 9) >>= fun r19 =>
      (e16 qq 21) >>= fun r21 =>
      (e23 qq r21 [(Tm.mk 8 300 []), (Tm.mk 8 300 [])]) >>= fun r23 =>
      (e23 qq r19 [r7, r23]) >>= fun r25 =>
      (e21 qq (Mach.mk r3.2.1 r3.2.2.2.2.1 r3.2.2.2.2.2 r3.2.2.1 r3.2.2.2.1) [(FreeVar.mk 300 r7), (FreeVar.mk (w64 (p0)) r25)] (w64 (p0)) y18.2.2.1 y18.2.2.2) >>= fun r27 =>
      match r27 with
      | Sum.inl y29 =>
        (e16 qq 12) >>= fun r30 =>
        (e23 qq r30 [r7, (Tm.mk 8 300 []), (Tm.mk 8 300 [])]) >>= fun r32 =>
        (e21 qq (Mach.mk r3.2.1 r3.2.2.2.2.1 r3.2.2.2.2.2 r3.2.2.1 r3.2.2.2.1) [(FreeVar.mk 300 r7), (FreeVar.mk (w64 (p0)) r32)] (w64 (p0)) y29.2.2.1 y29.2.2.2) >>= fun r34 =>
        match r34 with
        | Sum.inl y36 =>
          if (r9.2 == 5) = true then
            if (y13.2.1 == 16) = true then
              if (y18.2.1 == 17) = true then
                if (y29.2.1 == 13) = true then
                  if (y36.2.1 == 12) = true then
                    (e24 qq) >>= fun r42 =>
                    some r42
                  else
                    none
                else
                  none
              else
                none
            else
              none
          else
            none
        | Sum.inr y44 =>
          if (r9.2 == 5) = true then
            if (y13.2.1 == 16) = true then
              if (y18.2.1 == 17) = true then
                if (y29.2.1 == 13) = true then
                  if (y44.2.1 == 12) = true then
                    (e24 qq) >>= fun r50 =>
                    some r50
                  else
                    none
                else
                  none
              else
                none
            else
              none
          else
            none
      | Sum.inr y52 =>
        (e16 qq 12) >>= fun r53 =>
        (e23 qq r53 [r7, (Tm.mk 8 300 []), (Tm.mk 8 300 [])]) >>= fun r55 =>
        (e21 qq (Mach.mk r3.2.1 r3.2.2.2.2.1 r3.2.2.2.2.2 r3.2.2.1 r3.2.2.2.1) [(FreeVar.mk 300 r7), (FreeVar.mk (w64 (p0)) r55)] (w64 (p0)) y52.2.2.1 y52.2.2.2) >>= fun r57 =>
        match r57 with
        | Sum.inl y59 =>
          if (r9.2 == 5) = true then
            if (y13.2.1 == 16) = true then
              if (y18.2.1 == 17) = true then
                if (y52.2.1 == 13) = true then
                  if (y59.2.1 == 12) = true then
                    (e24 qq) >>= fun r65 =>
                    some r65
                  else
                    none
                else
                  none
              else
                none
            else
              none
          else
            none
        | Sum.inr y67 =>
          if (r9.2 == 5) = true then
            if (y13.2.1 == 16) = true then
              if (y18.2.1 == 17) = true then
                if (y52.2.1 == 13) = true then
                  if (y67.2.1 == 12) = true then
                    (e24 qq) >>= fun r73 =>
                    some r73
                  else
                    none
                else
                  none
              else
                none
            else
              none
          else
            none
    | Sum.inr y75 =>
      (e16 qq 9) >>= fun r76 =>
      (e16 qq 21) >>= fun r78 =>
      (e23 qq r78 [(Tm.mk 8 300 []), (Tm.mk 8 300 [])]) >>= fun r80 =>
      (e23 qq r76 [r7, r80]) >>= fun r82 =>
      (e21 qq (Mach.mk r3.2.1 r3.2.2.2.2.1 r3.2.2.2.2.2 r3.2.2.1 r3.2.2.2.1) [(FreeVar.mk 300 r7), (FreeVar.mk (w64 (p0)) r82)] (w64 (p0)) y75.2.2.1 y75.2.2.2) >>= fun r84 =>
      match r84 with
      | Sum.inl y86 =>
        (e16 qq 12) >>= fun r87 =>
        (e23 qq r87 [r7, (Tm.mk 8 300 []), (Tm.mk 8 300 [])]) >>= fun r89 =>
        (e21 qq (Mach.mk r3.2.1 r3.2.2.2.2.1 r3.2.2.2.2.2 r3.2.2.1 r3.2.2.2.1) [(FreeVar.mk 300 r7), (FreeVar.mk (w64 (p0)) r89)] (w64 (p0)) y86.2.2.1 y86.2.2.2) >>= fun r91 =>
        match r91 with
        | Sum.inl y93 =>
          if (r9.2 == 5) = true then
            if (y13.2.1 == 16) = true then
              if (y75.2.1 == 17) = true then
                if (y86.2.1 == 13) = true then
                  if (y93.2.1 == 12) = true then
                    (e24 qq) >>= fun r99 =>
                    some r99
                  else
                    none
                else
                  none
              else
                none
            else
              none
          else
            none
        | Sum.inr y101 =>
          if (r9.2 == 5) = true then
            if (y13.2.1 == 16) = true then
              if (y75.2.1 == 17) = true then
                if (y86.2.1 == 13) = true then
                  if (y101.2.1 == 12) = true then
                    (e24 qq) >>= fun r107 =>
                    some r107
                  else
                    none
                else
                  none
              else
                none
            else
              none
          else
            none
      | Sum.inr y109 =>
        (e16 qq 12) >>= fun r110 =>
        (e23 qq r110 [r7, (Tm.mk 8 300 []), (Tm.mk 8 300 [])]) >>= fun r112 =>
        (e21 qq (Mach.mk r3.2.1 r3.2.2.2.2.1 r3.2.2.2.2.2 r3.2.2.1 r3.2.2.2.1) [(FreeVar.mk 300 r7), (FreeVar.mk (w64 (p0)) r112)] (w64 (p0)) y109.2.2.1 y109.2.2.2) >>= fun r114 =>
        match r114 with
        | Sum.inl y116 =>
          if (r9.2 == 5) = true then
            if (y13.2.1 == 16) = true then
              if (y75.2.1 == 17) = true then
                if (y109.2.1 == 13) = true then
                  if (y116.2.1 == 12) = true then
                    (e24 qq) >>= fun r122 =>
                    some r122
                  else
                    none
                else
                  none
              else
                none
            else
              none
          else
            none
        | Sum.inr y124 =>
          if (r9.2 == 5) = true then
            if (y13.2.1 == 16) = true then
              if (y75.2.1 == 17) = true then
                if (y109.2.1 == 13) = true then
                  if (y124.2.1 == 12) = true then
                    (e24 qq) >>= fun r130 =>
                    some r130
                  else
                    none
                else
                  none
              else
                none
            else
              none
          else
            none
  | Sum.inr y132 =>
    (e22 qq r7 r7) >>= fun r133 =>
    (e21 qq (Mach.mk r3.2.1 r3.2.2.2.2.1 r3.2.2.2.2.2 r3.2.2.1 r3.2.2.2.1) [(FreeVar.mk (w64 (p0)) r133)] (w64 (p0)) y132.2.2.1 y132.2.2.2) >>= fun r135 =>
    match r135 with
    | Sum.inl y137 =>
      (e16 qq 9) >>= fun r138 =>
      (e16 qq 21) >>= fun r140 =>
      (e23 qq r140 [(Tm.mk 8 300 []), (Tm.mk 8 300 [])]) >>= fun r142 =>
      (e23 qq r138 [r7, r142]) >>= fun r144 =>
      (e21 qq (Mach.mk r3.2.1 r3.2.2.2.2.1 r3.2.2.2.2.2 r3.2.2.1 r3.2.2.2.1) [(FreeVar.mk 300 r7), (FreeVar.mk (w64 (p0)) r144)] (w64 (p0)) y137.2.2.1 y137.2.2.2) >>= fun r146 =>
      match r146 with
      | Sum.inl y148 =>
        (e16 qq 12) >>= fun r149 =>
        (e23 qq r149 [r7, (Tm.mk 8 300 []), (Tm.mk 8 300 [])]) >>= fun r151 =>
        (e21 qq (Mach.mk r3.2.1 r3.2.2.2.2.1 r3.2.2.2.2.2 r3.2.2.1 r3.2.2.2.1) [(FreeVar.mk 300 r7), (FreeVar.mk (w64 (p0)) r151)] (w64 (p0)) y148.2.2.1 y148.2.2.2) >>= fun r153 =>
        match r153 with
        | Sum.inl y155 =>
          if (r9.2 == 5) = true then
            if (y132.2.1 == 16) = true then
              if (y137.2.1 == 17) = true then
                if (y148.2.1 == 13) = true then
                  if (y155.2.1 == 12) = true then
                    (e24 qq) >>= fun r161 =>
                    some r161
                  else
                    none
                else
                  none
              else
                none
            else
              none
          else
            none
        | Sum.inr y163 =>
          if (r9.2 == 5) = true then
            if (y132.2.1 == 16) = true then
              if (y137.2.1 == 17) = true then
                if (y148.2.1 == 13) = true then
                  if (y163.2.1 == 12) = true then
                    (e24 qq) >>= fun r169 =>
                    some r169
                  else
                    none
                else
                  none
              else
                none
            else
              none
          else
            none
      | Sum.inr y171 =>
        (e16 qq 12) >>= fun r172 =>
        (e23 qq r172 [r7, (Tm.mk 8 300 []), (Tm.mk 8 300 [])]) >>= fun r174 =>
        (e21 qq (Mach.mk r3.2.1 r3.2.2.2.2.1 r3.2.2.2.2.2 r3.2.2.1 r3.2.2.2.1) [(FreeVar.mk 300 r7), (FreeVar.mk (w64 (p0)) r174)] (w64 (p0)) y171.2.2.1 y171.2.2.2) >>= fun r176 =>
        match r176 with
        | Sum.inl y178 =>
          if (r9.2 == 5) = true then
            if (y132.2.1 == 16) = true then
              if (y137.2.1 == 17) = true then
                if (y171.2.1 == 13) = true then
                  if (y178.2.1 == 12) = true then
                    (e24 qq) >>= fun r184 =>
                    some r184
                  else
                    none
                else
                  none
              else
                none
            else
              none
          else
            none
        | Sum.inr y186 =>
          if (r9.2 == 5) = true then
            if (y132.2.1 == 16) = true then
              if (y137.2.1 == 17) = true then
                if (y171.2.1 == 13) = true then
                  if (y186.2.1 == 12) = true then
                    (e24 qq) >>= fun r192 =>
                    some r192
                  else
                    none
                else
                  none
              else
                none
            else
              none
          else
            none
    | Sum.inr y194 =>
      (e16 qq 9) >>= fun r195 =>
      (e16 qq 21) >>= fun r197 =>
      (e23 qq r197 [(Tm.mk 8 300 []), (Tm.mk 8 300 [])]) >>= fun r199 =>
      (e23 qq r195 [r7, r199]) >>= fun r201 =>
      (e21 qq (Mach.mk r3.2.1 r3.2.2.2.2.1 r3.2.2.2.2.2 r3.2.2.1 r3.2.2.2.1) [(FreeVar.mk 300 r7), (FreeVar.mk (w64 (p0)) r201)] (w64 (p0)) y194.2.2.1 y194.2.2.2) >>= fun r203 =>
      match r203 with
      | Sum.inl y205 =>
        (e16 qq 12) >>= fun r206 =>
        (e23 qq r206 [r7, (Tm.mk 8 300 []), (Tm.mk 8 300 [])]) >>= fun r208 =>
        (e21 qq (Mach.mk r3.2.1 r3.2.2.2.2.1 r3.2.2.2.2.2 r3.2.2.1 r3.2.2.2.1) [(FreeVar.mk 300 r7), (FreeVar.mk (w64 (p0)) r208)] (w64 (p0)) y205.2.2.1 y205.2.2.2) >>= fun r210 =>
        match r210 with
        | Sum.inl y212 =>
          if (r9.2 == 5) = true then
            if (y132.2.1 == 16) = true then
              if (y194.2.1 == 17) = true then
                if (y205.2.1 == 13) = true then
                  if (y212.2.1 == 12) = true then
                    (e24 qq) >>= fun r218 =>
                    some r218
                  else
                    none
                else
                  none
              else
                none
            else
              none
          else
            none
        | Sum.inr y220 =>
          if (r9.2 == 5) = true then
            if (y132.2.1 == 16) = true then
              if (y194.2.1 == 17) = true then
                if (y205.2.1 == 13) = true then
                  if (y220.2.1 == 12) = true then
                    (e24 qq) >>= fun r226 =>
                    some r226
                  else
                    none
                else
                  none
              else
                none
            else
              none
          else
            none
      | Sum.inr y228 =>
        (e16 qq 12) >>= fun r229 =>
        (e23 qq r229 [r7, (Tm.mk 8 300 []), (Tm.mk 8 300 [])]) >>= fun r231 =>
        (e21 qq (Mach.mk r3.2.1 r3.2.2.2.2.1 r3.2.2.2.2.2 r3.2.2.1 r3.2.2.2.1) [(FreeVar.mk 300 r7), (FreeVar.mk (w64 (p0)) r231)] (w64 (p0)) y228.2.2.1 y228.2.2.2) >>= fun r233 =>
        match r233 with
        | Sum.inl y235 =>
          if (r9.2 == 5) = true then
            if (y132.2.1 == 16) = true then
              if (y194.2.1 == 17) = true then
                if (y228.2.1 == 13) = true then
                  if (y235.2.1 == 12) = true then
                    (e24 qq) >>= fun r241 =>
                    some r241
                  else
                    none
                else
                  none
              else
                none
            else
              none
          else
            none
        | Sum.inr y243 =>
          if (r9.2 == 5) = true then
            if (y132.2.1 == 16) = true then
              if (y194.2.1 == 17) = true then
                if (y228.2.1 == 13) = true then
                  if (y243.2.1 == 12) = true then
                    (e24 qq) >>= fun r249 =>
                    some r249
                  else
                    none
                else
                  none
              else
                none
            else
              none
          else
            none
theorem q5 : Tryz.prog.funcs[5]? = some Tryz.f5 ∧ Tryz.f5.body.isNone = false := ⟨Tryz.func5, by kernel_rfl⟩
theorem k5 {p0 : U8} {r : Bool} (h : CTri Tryz.prog 5 [] [.val (.int .u8 p0)] (ab r) [] 0) : CT Tryz.prog 5 [] [.val (.int .u8 p0)] (ab r) [] 0 := ⟨h, ⟨trivial, trivial⟩, forall_nil, trivial, forall_nil⟩
theorem c5 {qq : Nat} {p0 : U8} {r : Bool} (h : e5 qq p0 = some r) : CT Tryz.prog 5 [] [.val (.int .u8 p0)] (ab r) [] 0 := by
  unfold e5 at h
  obtain ⟨r1, h2, h⟩ := obind h
  obtain ⟨r3, h4, h⟩ := obind h
  obtain ⟨r5, h6, h⟩ := obind h
  obtain ⟨r7, h8, h⟩ := obind h
  obtain ⟨r9, h10, h⟩ := obind h
  obtain ⟨r11, h12, h⟩ := obind h
  have k := oC 1 [2] (c21va65405 h10) <| oC 3 [] (c16 h8) <| oC 2 [] (c12 h6) <| oC 0 [] (c11 h4) <| oC 0 [] (c9 h2) o0
  rcases r11 with y13 | y132
  · dsimp only at h
    obtain ⟨r14, h15, h⟩ := obind h
    obtain ⟨r16, h17, h⟩ := obind h
    have k := oC 4 [] (c22 h15) <| oC 2 [0, 1, 2] (c21 h12) k
    rcases r16 with y18 | y75
    · dsimp only at h
      obtain ⟨r19, h20, h⟩ := obind h
      obtain ⟨r21, h22, h⟩ := obind h
      obtain ⟨r23, h24, h⟩ := obind h
      obtain ⟨r25, h26, h⟩ := obind h
      obtain ⟨r27, h28, h⟩ := obind h
      have k := oC 0 [] (c23 h26) <| oS 0 (obLitR tm_eq [r7, r23]) <| oC 0 [] (c23 h24) <| oS 2 (obLitR tm_eq [(Tm.mk 8 300 []), (Tm.mk 8 300 [])]) <| oC 1 [] (c16 h22) <| oC 3 [] (c16 h20) <| oC 1 [0, 1, 2] (c21 h17) k
      rcases r27 with y29 | y52
      · dsimp only at h
        obtain ⟨r30, h31, h⟩ := obind h
        obtain ⟨r32, h33, h⟩ := obind h
        obtain ⟨r34, h35, h⟩ := obind h
        have k := oC 0 [] (c23 h33) <| oS 3 (obLitR tm_eq [r7, (Tm.mk 8 300 []), (Tm.mk 8 300 [])]) <| oC 2 [] (c16 h31) <| oC 4 [0, 1, 2] (c21 h28) k
        rcases r34 with y36 | y44
        · dsimp only at h
          have k := oC 4 [0, 1, 2] (c21 h35) k
          obtain ⟨h37, h⟩ := splT h
          have k := oB 2 h37 k
          obtain ⟨h38, h⟩ := splT h
          have k := oB 0 h38 k
          obtain ⟨h39, h⟩ := splT h
          have k := oB 0 h39 k
          obtain ⟨h40, h⟩ := splT h
          have k := oB 0 h40 k
          obtain ⟨h41, h⟩ := splT h
          obtain ⟨r42, h43, h⟩ := obind h
          obtain rfl := sj h
          exact k5 (tF q5 0 [] (oC 0 [] (c24 h43) <| oB 0 h41 k) (by kernel_rfl))
        · dsimp only at h
          have k := oC 4 [0, 1, 2] (c21 h35) k
          obtain ⟨h45, h⟩ := splT h
          have k := oB 2 h45 k
          obtain ⟨h46, h⟩ := splT h
          have k := oB 0 h46 k
          obtain ⟨h47, h⟩ := splT h
          have k := oB 0 h47 k
          obtain ⟨h48, h⟩ := splT h
          have k := oB 0 h48 k
          obtain ⟨h49, h⟩ := splT h
          obtain ⟨r50, h51, h⟩ := obind h
          obtain rfl := sj h
          exact k5 (tF q5 0 [] (oC 0 [] (c24 h51) <| oB 0 h49 k) (by kernel_rfl))
      · dsimp only at h
        obtain ⟨r53, h54, h⟩ := obind h
        obtain ⟨r55, h56, h⟩ := obind h
        obtain ⟨r57, h58, h⟩ := obind h
        have k := oC 0 [] (c23 h56) <| oS 3 (obLitR tm_eq [r7, (Tm.mk 8 300 []), (Tm.mk 8 300 [])]) <| oC 2 [] (c16 h54) <| oC 4 [0, 1, 2] (c21 h28) k
        rcases r57 with y59 | y67
        · dsimp only at h
          have k := oC 4 [0, 1, 2] (c21 h58) k
          obtain ⟨h60, h⟩ := splT h
          have k := oB 2 h60 k
          obtain ⟨h61, h⟩ := splT h
          have k := oB 0 h61 k
          obtain ⟨h62, h⟩ := splT h
          have k := oB 0 h62 k
          obtain ⟨h63, h⟩ := splT h
          have k := oB 0 h63 k
          obtain ⟨h64, h⟩ := splT h
          obtain ⟨r65, h66, h⟩ := obind h
          obtain rfl := sj h
          exact k5 (tF q5 0 [] (oC 0 [] (c24 h66) <| oB 0 h64 k) (by kernel_rfl))
        · dsimp only at h
          have k := oC 4 [0, 1, 2] (c21 h58) k
          obtain ⟨h68, h⟩ := splT h
          have k := oB 2 h68 k
          obtain ⟨h69, h⟩ := splT h
          have k := oB 0 h69 k
          obtain ⟨h70, h⟩ := splT h
          have k := oB 0 h70 k
          obtain ⟨h71, h⟩ := splT h
          have k := oB 0 h71 k
          obtain ⟨h72, h⟩ := splT h
          obtain ⟨r73, h74, h⟩ := obind h
          obtain rfl := sj h
          exact k5 (tF q5 0 [] (oC 0 [] (c24 h74) <| oB 0 h72 k) (by kernel_rfl))
    · dsimp only at h
      obtain ⟨r76, h77, h⟩ := obind h
      obtain ⟨r78, h79, h⟩ := obind h
      obtain ⟨r80, h81, h⟩ := obind h
      obtain ⟨r82, h83, h⟩ := obind h
      obtain ⟨r84, h85, h⟩ := obind h
      have k := oC 0 [] (c23 h83) <| oS 0 (obLitR tm_eq [r7, r80]) <| oC 0 [] (c23 h81) <| oS 2 (obLitR tm_eq [(Tm.mk 8 300 []), (Tm.mk 8 300 [])]) <| oC 1 [] (c16 h79) <| oC 3 [] (c16 h77) <| oC 1 [0, 1, 2] (c21 h17) k
      rcases r84 with y86 | y109
      · dsimp only at h
        obtain ⟨r87, h88, h⟩ := obind h
        obtain ⟨r89, h90, h⟩ := obind h
        obtain ⟨r91, h92, h⟩ := obind h
        have k := oC 0 [] (c23 h90) <| oS 3 (obLitR tm_eq [r7, (Tm.mk 8 300 []), (Tm.mk 8 300 [])]) <| oC 2 [] (c16 h88) <| oC 4 [0, 1, 2] (c21 h85) k
        rcases r91 with y93 | y101
        · dsimp only at h
          have k := oC 4 [0, 1, 2] (c21 h92) k
          obtain ⟨h94, h⟩ := splT h
          have k := oB 2 h94 k
          obtain ⟨h95, h⟩ := splT h
          have k := oB 0 h95 k
          obtain ⟨h96, h⟩ := splT h
          have k := oB 0 h96 k
          obtain ⟨h97, h⟩ := splT h
          have k := oB 0 h97 k
          obtain ⟨h98, h⟩ := splT h
          obtain ⟨r99, h100, h⟩ := obind h
          obtain rfl := sj h
          exact k5 (tF q5 0 [] (oC 0 [] (c24 h100) <| oB 0 h98 k) (by kernel_rfl))
        · dsimp only at h
          have k := oC 4 [0, 1, 2] (c21 h92) k
          obtain ⟨h102, h⟩ := splT h
          have k := oB 2 h102 k
          obtain ⟨h103, h⟩ := splT h
          have k := oB 0 h103 k
          obtain ⟨h104, h⟩ := splT h
          have k := oB 0 h104 k
          obtain ⟨h105, h⟩ := splT h
          have k := oB 0 h105 k
          obtain ⟨h106, h⟩ := splT h
          obtain ⟨r107, h108, h⟩ := obind h
          obtain rfl := sj h
          exact k5 (tF q5 0 [] (oC 0 [] (c24 h108) <| oB 0 h106 k) (by kernel_rfl))
      · dsimp only at h
        obtain ⟨r110, h111, h⟩ := obind h
        obtain ⟨r112, h113, h⟩ := obind h
        obtain ⟨r114, h115, h⟩ := obind h
        have k := oC 0 [] (c23 h113) <| oS 3 (obLitR tm_eq [r7, (Tm.mk 8 300 []), (Tm.mk 8 300 [])]) <| oC 2 [] (c16 h111) <| oC 4 [0, 1, 2] (c21 h85) k
        rcases r114 with y116 | y124
        · dsimp only at h
          have k := oC 4 [0, 1, 2] (c21 h115) k
          obtain ⟨h117, h⟩ := splT h
          have k := oB 2 h117 k
          obtain ⟨h118, h⟩ := splT h
          have k := oB 0 h118 k
          obtain ⟨h119, h⟩ := splT h
          have k := oB 0 h119 k
          obtain ⟨h120, h⟩ := splT h
          have k := oB 0 h120 k
          obtain ⟨h121, h⟩ := splT h
          obtain ⟨r122, h123, h⟩ := obind h
          obtain rfl := sj h
          exact k5 (tF q5 0 [] (oC 0 [] (c24 h123) <| oB 0 h121 k) (by kernel_rfl))
        · dsimp only at h
          have k := oC 4 [0, 1, 2] (c21 h115) k
          obtain ⟨h125, h⟩ := splT h
          have k := oB 2 h125 k
          obtain ⟨h126, h⟩ := splT h
          have k := oB 0 h126 k
          obtain ⟨h127, h⟩ := splT h
          have k := oB 0 h127 k
          obtain ⟨h128, h⟩ := splT h
          have k := oB 0 h128 k
          obtain ⟨h129, h⟩ := splT h
          obtain ⟨r130, h131, h⟩ := obind h
          obtain rfl := sj h
          exact k5 (tF q5 0 [] (oC 0 [] (c24 h131) <| oB 0 h129 k) (by kernel_rfl))
  · dsimp only at h
    obtain ⟨r133, h134, h⟩ := obind h
    obtain ⟨r135, h136, h⟩ := obind h
    have k := oC 4 [] (c22 h134) <| oC 2 [0, 1, 2] (c21 h12) k
    rcases r135 with y137 | y194
    · dsimp only at h
      obtain ⟨r138, h139, h⟩ := obind h
      obtain ⟨r140, h141, h⟩ := obind h
      obtain ⟨r142, h143, h⟩ := obind h
      obtain ⟨r144, h145, h⟩ := obind h
      obtain ⟨r146, h147, h⟩ := obind h
      have k := oC 0 [] (c23 h145) <| oS 0 (obLitR tm_eq [r7, r142]) <| oC 0 [] (c23 h143) <| oS 2 (obLitR tm_eq [(Tm.mk 8 300 []), (Tm.mk 8 300 [])]) <| oC 1 [] (c16 h141) <| oC 3 [] (c16 h139) <| oC 1 [0, 1, 2] (c21 h136) k
      rcases r146 with y148 | y171
      · dsimp only at h
        obtain ⟨r149, h150, h⟩ := obind h
        obtain ⟨r151, h152, h⟩ := obind h
        obtain ⟨r153, h154, h⟩ := obind h
        have k := oC 0 [] (c23 h152) <| oS 3 (obLitR tm_eq [r7, (Tm.mk 8 300 []), (Tm.mk 8 300 [])]) <| oC 2 [] (c16 h150) <| oC 4 [0, 1, 2] (c21 h147) k
        rcases r153 with y155 | y163
        · dsimp only at h
          have k := oC 4 [0, 1, 2] (c21 h154) k
          obtain ⟨h156, h⟩ := splT h
          have k := oB 2 h156 k
          obtain ⟨h157, h⟩ := splT h
          have k := oB 0 h157 k
          obtain ⟨h158, h⟩ := splT h
          have k := oB 0 h158 k
          obtain ⟨h159, h⟩ := splT h
          have k := oB 0 h159 k
          obtain ⟨h160, h⟩ := splT h
          obtain ⟨r161, h162, h⟩ := obind h
          obtain rfl := sj h
          exact k5 (tF q5 0 [] (oC 0 [] (c24 h162) <| oB 0 h160 k) (by kernel_rfl))
        · dsimp only at h
          have k := oC 4 [0, 1, 2] (c21 h154) k
          obtain ⟨h164, h⟩ := splT h
          have k := oB 2 h164 k
          obtain ⟨h165, h⟩ := splT h
          have k := oB 0 h165 k
          obtain ⟨h166, h⟩ := splT h
          have k := oB 0 h166 k
          obtain ⟨h167, h⟩ := splT h
          have k := oB 0 h167 k
          obtain ⟨h168, h⟩ := splT h
          obtain ⟨r169, h170, h⟩ := obind h
          obtain rfl := sj h
          exact k5 (tF q5 0 [] (oC 0 [] (c24 h170) <| oB 0 h168 k) (by kernel_rfl))
      · dsimp only at h
        obtain ⟨r172, h173, h⟩ := obind h
        obtain ⟨r174, h175, h⟩ := obind h
        obtain ⟨r176, h177, h⟩ := obind h
        have k := oC 0 [] (c23 h175) <| oS 3 (obLitR tm_eq [r7, (Tm.mk 8 300 []), (Tm.mk 8 300 [])]) <| oC 2 [] (c16 h173) <| oC 4 [0, 1, 2] (c21 h147) k
        rcases r176 with y178 | y186
        · dsimp only at h
          have k := oC 4 [0, 1, 2] (c21 h177) k
          obtain ⟨h179, h⟩ := splT h
          have k := oB 2 h179 k
          obtain ⟨h180, h⟩ := splT h
          have k := oB 0 h180 k
          obtain ⟨h181, h⟩ := splT h
          have k := oB 0 h181 k
          obtain ⟨h182, h⟩ := splT h
          have k := oB 0 h182 k
          obtain ⟨h183, h⟩ := splT h
          obtain ⟨r184, h185, h⟩ := obind h
          obtain rfl := sj h
          exact k5 (tF q5 0 [] (oC 0 [] (c24 h185) <| oB 0 h183 k) (by kernel_rfl))
        · dsimp only at h
          have k := oC 4 [0, 1, 2] (c21 h177) k
          obtain ⟨h187, h⟩ := splT h
          have k := oB 2 h187 k
          obtain ⟨h188, h⟩ := splT h
          have k := oB 0 h188 k
          obtain ⟨h189, h⟩ := splT h
          have k := oB 0 h189 k
          obtain ⟨h190, h⟩ := splT h
          have k := oB 0 h190 k
          obtain ⟨h191, h⟩ := splT h
          obtain ⟨r192, h193, h⟩ := obind h
          obtain rfl := sj h
          exact k5 (tF q5 0 [] (oC 0 [] (c24 h193) <| oB 0 h191 k) (by kernel_rfl))
    · dsimp only at h
      obtain ⟨r195, h196, h⟩ := obind h
      obtain ⟨r197, h198, h⟩ := obind h
      obtain ⟨r199, h200, h⟩ := obind h
      obtain ⟨r201, h202, h⟩ := obind h
      obtain ⟨r203, h204, h⟩ := obind h
      have k := oC 0 [] (c23 h202) <| oS 0 (obLitR tm_eq [r7, r199]) <| oC 0 [] (c23 h200) <| oS 2 (obLitR tm_eq [(Tm.mk 8 300 []), (Tm.mk 8 300 [])]) <| oC 1 [] (c16 h198) <| oC 3 [] (c16 h196) <| oC 1 [0, 1, 2] (c21 h136) k
      rcases r203 with y205 | y228
      · dsimp only at h
        obtain ⟨r206, h207, h⟩ := obind h
        obtain ⟨r208, h209, h⟩ := obind h
        obtain ⟨r210, h211, h⟩ := obind h
        have k := oC 0 [] (c23 h209) <| oS 3 (obLitR tm_eq [r7, (Tm.mk 8 300 []), (Tm.mk 8 300 [])]) <| oC 2 [] (c16 h207) <| oC 4 [0, 1, 2] (c21 h204) k
        rcases r210 with y212 | y220
        · dsimp only at h
          have k := oC 4 [0, 1, 2] (c21 h211) k
          obtain ⟨h213, h⟩ := splT h
          have k := oB 2 h213 k
          obtain ⟨h214, h⟩ := splT h
          have k := oB 0 h214 k
          obtain ⟨h215, h⟩ := splT h
          have k := oB 0 h215 k
          obtain ⟨h216, h⟩ := splT h
          have k := oB 0 h216 k
          obtain ⟨h217, h⟩ := splT h
          obtain ⟨r218, h219, h⟩ := obind h
          obtain rfl := sj h
          exact k5 (tF q5 0 [] (oC 0 [] (c24 h219) <| oB 0 h217 k) (by kernel_rfl))
        · dsimp only at h
          have k := oC 4 [0, 1, 2] (c21 h211) k
          obtain ⟨h221, h⟩ := splT h
          have k := oB 2 h221 k
          obtain ⟨h222, h⟩ := splT h
          have k := oB 0 h222 k
          obtain ⟨h223, h⟩ := splT h
          have k := oB 0 h223 k
          obtain ⟨h224, h⟩ := splT h
          have k := oB 0 h224 k
          obtain ⟨h225, h⟩ := splT h
          obtain ⟨r226, h227, h⟩ := obind h
          obtain rfl := sj h
          exact k5 (tF q5 0 [] (oC 0 [] (c24 h227) <| oB 0 h225 k) (by kernel_rfl))
      · dsimp only at h
        obtain ⟨r229, h230, h⟩ := obind h
        obtain ⟨r231, h232, h⟩ := obind h
        obtain ⟨r233, h234, h⟩ := obind h
        have k := oC 0 [] (c23 h232) <| oS 3 (obLitR tm_eq [r7, (Tm.mk 8 300 []), (Tm.mk 8 300 [])]) <| oC 2 [] (c16 h230) <| oC 4 [0, 1, 2] (c21 h204) k
        rcases r233 with y235 | y243
        · dsimp only at h
          have k := oC 4 [0, 1, 2] (c21 h234) k
          obtain ⟨h236, h⟩ := splT h
          have k := oB 2 h236 k
          obtain ⟨h237, h⟩ := splT h
          have k := oB 0 h237 k
          obtain ⟨h238, h⟩ := splT h
          have k := oB 0 h238 k
          obtain ⟨h239, h⟩ := splT h
          have k := oB 0 h239 k
          obtain ⟨h240, h⟩ := splT h
          obtain ⟨r241, h242, h⟩ := obind h
          obtain rfl := sj h
          exact k5 (tF q5 0 [] (oC 0 [] (c24 h242) <| oB 0 h240 k) (by kernel_rfl))
        · dsimp only at h
          have k := oC 4 [0, 1, 2] (c21 h234) k
          obtain ⟨h244, h⟩ := splT h
          have k := oB 2 h244 k
          obtain ⟨h245, h⟩ := splT h
          have k := oB 0 h245 k
          obtain ⟨h246, h⟩ := splT h
          have k := oB 0 h246 k
          obtain ⟨h247, h⟩ := splT h
          have k := oB 0 h247 k
          obtain ⟨h248, h⟩ := splT h
          obtain ⟨r249, h250, h⟩ := obind h
          obtain rfl := sj h
          exact k5 (tF q5 0 [] (oC 0 [] (c24 h250) <| oB 0 h248 k) (by kernel_rfl))

end Go.Proofs.YtlbmblbeccafcaaGreat
