/- Texts: AbF123_192_193_194_247_250_282 AbRo AbF57 AbF188 AbF122 AbF59 AbF183va47633 AbF188va35143 AbF122va35143 AbF123va36126_192va36126_193va36126_194va36126_247va36126_250va46584_282va46584 AbF59va19146 AbF59va53787 AbF59va54170 AbF121 AbF58 AbF60 AbF12 AbRp AbRq -/
import Derived.Test.YteiddempdecleaaGreatAbB5
set_option linter.unusedVariables false
set_option linter.unusedSimpArgs false
namespace Go.Proofs.YteiddempdecleaaGreat
open Go Go.Ab
mutual
def e123:Nat → Mach → Int → Int → (List Tm) → (List Int) → (List Tm) → (List Ent) → Tm → Option (Tm × Int × Int × Int)
 | 0,_,_,_,_,_,_,_,_ => none
 | qq + 1,M,fl,fu,q0_World_Context,q0_World_Names,q0_World_Types,q0_l,p1 =>
 if p1.k == 1 then
 e189 qq M fl fu q0_World_Context q0_World_Names q0_World_Types q0_l p1.n >>= fun r2 =>
 some (r2.1,r2.2,fl,fu)
 else
 if p1.k == 8 then
 e190 qq M fl fu q0_World_Context q0_World_Names q0_World_Types q0_l p1.n >>= fun r5 =>
 some (r5.1,r5.2,fl,fu)
 else
 if p1.k == 6 then
 gidx q0_l p1.n >>= fun x8 =>
 some (x8.type,0,fl,fu)
 else
 if p1.k == 7 then
 gidx p1.sub 0 >>= fun x11 =>
 e67 qq q0_l p1.n x11.n >>= fun r13 =>
 some (r13.1,r13.2,fl,fu)
 else
 if p1.k == 2 then
 if decide (p1.n ≥ 7) then
 some ((Tm.mk 0 0 []),7,fl,fu)
 else
 e191 qq (w64 (p1.n + 1)) >>= fun r17 =>
 some (r17,0,fl,fu)
 else
 if p1.k == 3 then
 e192 qq M fl fu q0_World_Context q0_World_Names q0_World_Types q0_l p1 >>= fun r20 =>
 some (r20.1,r20.2.1,r20.2.2.1,r20.2.2.2)
 else
 if p1.k == 4 then
 e193 qq M fl fu q0_World_Context q0_World_Names q0_World_Types q0_l p1 >>= fun r23 =>
 some (r23.1,r23.2.1,r23.2.2.1,r23.2.2.2)
 else
 e194 qq M fl fu q0_World_Context q0_World_Names q0_World_Types q0_l p1 >>= fun r25 =>
 some (r25.1,r25.2.1,r25.2.2.1,r25.2.2.2)
def e192:Nat → Mach → Int → Int → (List Tm) → (List Int) → (List Tm) → (List Ent) → Tm → Option (Tm × Int × Int × Int)
 | 0,_,_,_,_,_,_,_,_ => none
 | qq + 1,M,fl,fu,q0_World_Context,q0_World_Names,q0_World_Types,q0_l,p1 =>
 gidx p1.sub 0 >>= fun x1 =>
 e247 qq M fl fu q0_World_Context q0_World_Names q0_World_Types q0_l x1 >>= fun r3 =>
 if r3.2.1 != 0 then
 some ((Tm.mk 0 0 []),r3.2.1,r3.2.2.1,r3.2.2.2)
 else
 e248 qq M r3.2.2.1 r3.2.2.2 q0_World_Context q0_World_Names q0_World_Types q0_l x1 >>= fun r6 =>
 gidx p1.sub 1 >>= fun x8 =>
 e247 qq M r3.2.2.1 r3.2.2.2 r6.1 r6.2.1 r6.2.2.1 r6.2.2.2 x8 >>= fun r10 =>
 if r10.2.1 != 0 then
 some ((Tm.mk 0 0 []),r10.2.1,r10.2.2.1,r10.2.2.2)
 else
 e191 qq (imax r3.1 r10.1) >>= fun r13 =>
 some (r13,0,r10.2.2.1,r10.2.2.2)
def e193:Nat → Mach → Int → Int → (List Tm) → (List Int) → (List Tm) → (List Ent) → Tm → Option (Tm × Int × Int × Int)
 | 0,_,_,_,_,_,_,_,_ => none
 | qq + 1,M,fl,fu,q0_World_Context,q0_World_Names,q0_World_Types,q0_l,p1 =>
 gidx p1.sub 0 >>= fun x1 =>
 e247 qq M fl fu q0_World_Context q0_World_Names q0_World_Types q0_l x1 >>= fun r3 =>
 if r3.2.1 != 0 then
 some ((Tm.mk 0 0 []),r3.2.1,r3.2.2.1,r3.2.2.2)
 else
 e248 qq M r3.2.2.1 r3.2.2.2 q0_World_Context q0_World_Names q0_World_Types q0_l x1 >>= fun r6 =>
 gidx p1.sub 1 >>= fun x8 =>
 e123 qq M r3.2.2.1 r3.2.2.2 r6.1 r6.2.1 r6.2.2.1 r6.2.2.2 x8 >>= fun r10 =>
 if r10.2.1 != 0 then
 some ((Tm.mk 0 0 []),r10.2.1,r10.2.2.1,r10.2.2.2)
 else
 e208 qq x1 r10.1 >>= fun r13 =>
 e249 qq r13 >>= fun r15 =>
 some (r15.1,r15.2,r10.2.2.1,r10.2.2.2)
def e194:Nat → Mach → Int → Int → (List Tm) → (List Int) → (List Tm) → (List Ent) → Tm → Option (Tm × Int × Int × Int)
 | 0,_,_,_,_,_,_,_,_ => none
 | qq + 1,M,fl,fu,q0_World_Context,q0_World_Names,q0_World_Types,q0_l,p1 =>
 e163 qq fl fu >>= fun r1 =>
 if r1.1 != 0 then
 some ((Tm.mk 0 0 []),r1.1,r1.2.1,r1.2.2)
 else
 gidx p1.sub 0 >>= fun x4 =>
 e123 qq M r1.2.1 r1.2.2 q0_World_Context q0_World_Names q0_World_Types q0_l x4 >>= fun r6 =>
 if r6.2.1 != 0 then
 some ((Tm.mk 0 0 []),r6.2.1,r6.2.2.1,r6.2.2.2)
 else
 e79 qq M r6.1 r6.2.2.1 r6.2.2.2 >>= fun r9 =>
 if r9.2.1 != 0 then
 some ((Tm.mk 0 0 []),r9.2.1,r9.2.2.1,r9.2.2.2)
 else
 if r9.1.k != 3 then
 some ((Tm.mk 0 0 []),6,r9.2.2.1,r9.2.2.2)
 else
 gidx p1.sub 1 >>= fun x13 =>
 gidx r9.1.sub 0 >>= fun x15 =>
 e250 qq M r9.2.2.1 r9.2.2.2 q0_World_Context q0_World_Names q0_World_Types q0_l x13 x15 >>= fun r17 =>
 if r17.1 != 0 then
 some ((Tm.mk 0 0 []),r17.1,r17.2.1,r17.2.2)
 else
 gidx r9.1.sub 1 >>= fun x20 =>
 e159 qq x20 x13 >>= fun r22 =>
 some (r22.1,r22.2,r17.2.1,r17.2.2)
def e247:Nat → Mach → Int → Int → (List Tm) → (List Int) → (List Tm) → (List Ent) → Tm → Option (Int × Int × Int × Int)
 | 0,_,_,_,_,_,_,_,_ => none
 | qq + 1,M,fl,fu,q0_World_Context,q0_World_Names,q0_World_Types,q0_l,p1 =>
 e123 qq M fl fu q0_World_Context q0_World_Names q0_World_Types q0_l p1 >>= fun r1 =>
 if r1.2.1 != 0 then
 some (0,r1.2.1,r1.2.2.1,r1.2.2.2)
 else
 e79 qq M r1.1 r1.2.2.1 r1.2.2.2 >>= fun r4 =>
 if r4.2.1 != 0 then
 some (0,r4.2.1,r4.2.2.1,r4.2.2.2)
 else
 if r4.1.k != 2 then
 some (0,6,r4.2.2.1,r4.2.2.2)
 else
 some (r4.1.n,0,r4.2.2.1,r4.2.2.2)
def e250:Nat → Mach → Int → Int → (List Tm) → (List Int) → (List Tm) → (List Ent) → Tm → Tm → Option (Int × Int × Int)
 | 0,_,_,_,_,_,_,_,_,_ => none
 | qq + 1,M,fl,fu,q0_World_Context,q0_World_Names,q0_World_Types,q0_l,p1,p2 =>
 if p1.k == 4 then
 e79 qq M p2 fl fu >>= fun r2 =>
 if r2.2.1 != 0 then
 some (r2.2.1,r2.2.2.1,r2.2.2.2)
 else
 if r2.1.k == 3 then
 e282 qq M r2.2.2.1 r2.2.2.2 q0_World_Context q0_World_Names q0_World_Types q0_l p1 r2.1 >>= fun r6 =>
 some (r6.1,r6.2.1,r6.2.2)
 else
 e123 qq M r2.2.2.1 r2.2.2.2 q0_World_Context q0_World_Names q0_World_Types q0_l p1 >>= fun r8 =>
 if r8.2.1 != 0 then
 some (r8.2.1,r8.2.2.1,r8.2.2.2)
 else
 e283 qq M r8.1 p2 r8.2.2.1 r8.2.2.2 >>= fun r11 =>
 if r11.1 then
 if r11.2.1 == 0 then
 some (r11.2.1,r11.2.2.1,r11.2.2.2)
 else
 some (r11.2.1,r11.2.2.1,r11.2.2.2)
 else
 if r11.2.1 == 0 then
 some (6,r11.2.2.1,r11.2.2.2)
 else
 some (r11.2.1,r11.2.2.1,r11.2.2.2)
 else
 e123 qq M fl fu q0_World_Context q0_World_Names q0_World_Types q0_l p1 >>= fun r16 =>
 if r16.2.1 != 0 then
 some (r16.2.1,r16.2.2.1,r16.2.2.2)
 else
 e283 qq M r16.1 p2 r16.2.2.1 r16.2.2.2 >>= fun r19 =>
 if r19.1 then
 if r19.2.1 == 0 then
 some (r19.2.1,r19.2.2.1,r19.2.2.2)
 else
 some (r19.2.1,r19.2.2.1,r19.2.2.2)
 else
 if r19.2.1 == 0 then
 some (6,r19.2.2.1,r19.2.2.2)
 else
 some (r19.2.1,r19.2.2.1,r19.2.2.2)
def e282:Nat → Mach → Int → Int → (List Tm) → (List Int) → (List Tm) → (List Ent) → Tm → Tm → Option (Int × Int × Int)
 | 0,_,_,_,_,_,_,_,_,_ => none
 | qq + 1,M,fl,fu,q0_World_Context,q0_World_Names,q0_World_Types,q0_l,p1,p2 =>
 gidx p1.sub 0 >>= fun x1 =>
 e247 qq M fl fu q0_World_Context q0_World_Names q0_World_Types q0_l x1 >>= fun r3 =>
 if r3.2.1 != 0 then
 some (r3.2.1,r3.2.2.1,r3.2.2.2)
 else
 gidx p2.sub 0 >>= fun x6 =>
 e308 qq M x1 x6 r3.2.2.1 r3.2.2.2 >>= fun r8 =>
 if r8.1 then
 if r8.2.1 != 0 then
 some (r8.2.1,r8.2.2.1,r8.2.2.2)
 else
 e248 qq M r8.2.2.1 r8.2.2.2 q0_World_Context q0_World_Names q0_World_Types q0_l x6 >>= fun r12 =>
 gidx p1.sub 1 >>= fun x14 =>
 gidx p2.sub 1 >>= fun x16 =>
 e250 qq M r8.2.2.1 r8.2.2.2 r12.1 r12.2.1 r12.2.2.1 r12.2.2.2 x14 x16 >>= fun r18 =>
 some (r18.1,r18.2.1,r18.2.2)
 else
 if r8.2.1 != 0 then
 some (r8.2.1,r8.2.2.1,r8.2.2.2)
 else
 some (6,r8.2.2.1,r8.2.2.2)
end
abbrev K123 (M:Mach) (fl fu:Int) (q0_World_Context:List Tm) (q0_World_Names:List Int) (q0_World_Types:List Tm) (q0_l:List Ent) (p1:Tm) (r:Tm × Int × Int × Int) (C:Cf):Prop:=C 123 [.cells [.mp 1 0,.mp 3 0,slv tmCells q0_World_Context .no,slv intC q0_World_Names .no,slv tmCells q0_World_Types .no,slv entL q0_l .no],mB M 2,mR M,.cells [ai fl,ai fu]] [.mp 0 0,tmA p1] (.tup [tmA r.1,ai r.2.1]) [.cells [.mp 1 0,.mp 3 0,slv tmCells q0_World_Context .no,slv intC q0_World_Names .no,slv tmCells q0_World_Types .no,slv entL q0_l .no],mB M 2,mR M,.cells [ai r.2.2.1,ai r.2.2.2]] 0
abbrev K192 (M:Mach) (fl fu:Int) (q0_World_Context:List Tm) (q0_World_Names:List Int) (q0_World_Types:List Tm) (q0_l:List Ent) (p1:Tm) (r:Tm × Int × Int × Int) (C:Cf):Prop:=C 192 [.cells [.mp 1 0,.mp 3 0,slv tmCells q0_World_Context .no,slv intC q0_World_Names .no,slv tmCells q0_World_Types .no,slv entL q0_l .no],mB M 2,mR M,.cells [ai fl,ai fu]] [.mp 0 0,tmA p1] (.tup [tmA r.1,ai r.2.1]) [.cells [.mp 1 0,.mp 3 0,slv tmCells q0_World_Context .no,slv intC q0_World_Names .no,slv tmCells q0_World_Types .no,slv entL q0_l .no],mB M 2,mR M,.cells [ai r.2.2.1,ai r.2.2.2]] 0
abbrev K193 (M:Mach) (fl fu:Int) (q0_World_Context:List Tm) (q0_World_Names:List Int) (q0_World_Types:List Tm) (q0_l:List Ent) (p1:Tm) (r:Tm × Int × Int × Int) (C:Cf):Prop:=C 193 [.cells [.mp 1 0,.mp 3 0,slv tmCells q0_World_Context .no,slv intC q0_World_Names .no,slv tmCells q0_World_Types .no,slv entL q0_l .no],mB M 2,mR M,.cells [ai fl,ai fu]] [.mp 0 0,tmA p1] (.tup [tmA r.1,ai r.2.1]) [.cells [.mp 1 0,.mp 3 0,slv tmCells q0_World_Context .no,slv intC q0_World_Names .no,slv tmCells q0_World_Types .no,slv entL q0_l .no],mB M 2,mR M,.cells [ai r.2.2.1,ai r.2.2.2]] 0
abbrev K194 (M:Mach) (fl fu:Int) (q0_World_Context:List Tm) (q0_World_Names:List Int) (q0_World_Types:List Tm) (q0_l:List Ent) (p1:Tm) (r:Tm × Int × Int × Int) (C:Cf):Prop:=C 194 [.cells [.mp 1 0,.mp 3 0,slv tmCells q0_World_Context .no,slv intC q0_World_Names .no,slv tmCells q0_World_Types .no,slv entL q0_l .no],mB M 2,mR M,.cells [ai fl,ai fu]] [.mp 0 0,tmA p1] (.tup [tmA r.1,ai r.2.1]) [.cells [.mp 1 0,.mp 3 0,slv tmCells q0_World_Context .no,slv intC q0_World_Names .no,slv tmCells q0_World_Types .no,slv entL q0_l .no],mB M 2,mR M,.cells [ai r.2.2.1,ai r.2.2.2]] 0
abbrev K247 (M:Mach) (fl fu:Int) (q0_World_Context:List Tm) (q0_World_Names:List Int) (q0_World_Types:List Tm) (q0_l:List Ent) (p1:Tm) (r:Int × Int × Int × Int) (C:Cf):Prop:=C 247 [.cells [.mp 1 0,.mp 3 0,slv tmCells q0_World_Context .no,slv intC q0_World_Names .no,slv tmCells q0_World_Types .no,slv entL q0_l .no],mB M 2,mR M,.cells [ai fl,ai fu]] [.mp 0 0,tmA p1] (.tup [ai r.1,ai r.2.1]) [.cells [.mp 1 0,.mp 3 0,slv tmCells q0_World_Context .no,slv intC q0_World_Names .no,slv tmCells q0_World_Types .no,slv entL q0_l .no],mB M 2,mR M,.cells [ai r.2.2.1,ai r.2.2.2]] 0
abbrev K250 (M:Mach) (fl fu:Int) (q0_World_Context:List Tm) (q0_World_Names:List Int) (q0_World_Types:List Tm) (q0_l:List Ent) (p1 p2:Tm) (r:Int × Int × Int) (C:Cf):Prop:=C 250 [.cells [.mp 1 0,.mp 3 0,slv tmCells q0_World_Context .no,slv intC q0_World_Names .no,slv tmCells q0_World_Types .no,slv entL q0_l .no],mB M 2,mR M,.cells [ai fl,ai fu]] [.mp 0 0,tmA p1,tmA p2] (ai r.1) [.cells [.mp 1 0,.mp 3 0,slv tmCells q0_World_Context .no,slv intC q0_World_Names .no,slv tmCells q0_World_Types .no,slv entL q0_l .no],mB M 2,mR M,.cells [ai r.2.1,ai r.2.2]] 0
abbrev K282 (M:Mach) (fl fu:Int) (q0_World_Context:List Tm) (q0_World_Names:List Int) (q0_World_Types:List Tm) (q0_l:List Ent) (p1 p2:Tm) (r:Int × Int × Int) (C:Cf):Prop:=C 282 [.cells [.mp 1 0,.mp 3 0,slv tmCells q0_World_Context .no,slv intC q0_World_Names .no,slv tmCells q0_World_Types .no,slv entL q0_l .no],mB M 2,mR M,.cells [ai fl,ai fu]] [.mp 0 0,tmA p1,tmA p2] (ai r.1) [.cells [.mp 1 0,.mp 3 0,slv tmCells q0_World_Context .no,slv intC q0_World_Names .no,slv tmCells q0_World_Types .no,slv entL q0_l .no],mB M 2,mR M,.cells [ai r.2.1,ai r.2.2]] 0
theorem q123:Qf 123 Tryz.f123:=⟨Tryz.func123,by kernel_rfl⟩
theorem k123 {M fl fu q0_World_Context q0_World_Names q0_World_Types q0_l p1 r} (h:K123 M fl fu q0_World_Context q0_World_Names q0_World_Types q0_l p1 r Ci):K123 M fl fu q0_World_Context q0_World_Names q0_World_Types q0_l p1 r Ct:=⟨h,⟨(lz rfl),⟨tv,tv,⟨tv,dT _⟩,tv⟩,tv⟩,(forall_cons ⟨(lz rfl),(lz rfl),⟨tv,dT _⟩,⟨tv,dI _⟩,⟨tv,dT _⟩,⟨tv,dE _⟩,tv⟩ (forall_cons ⟨⟨tv,dE _⟩,(lz rfl),⟨tv,dI _⟩,⟨tv,dI _⟩,tv⟩ (forall_cons ⟨⟨tv,dE _⟩,⟨tv,dC _⟩,tv⟩ (forall_cons ⟨tv,tv,tv⟩ forall_nil)))),⟨⟨tv,tv,dT _,tv⟩,tv,tv⟩,(forall_cons ⟨(lz rfl),(lz rfl),dT _,dI _,dT _,dE _,tv⟩ (forall_cons ⟨dE _,(lz rfl),dI _,dI _,tv⟩ (forall_cons ⟨dE _,dC _,tv⟩ (forall_cons ⟨tv,tv,tv⟩ forall_nil))))⟩
theorem q192:Qf 192 Tryz.f192:=⟨Tryz.func192,by kernel_rfl⟩
theorem k192 {M fl fu q0_World_Context q0_World_Names q0_World_Types q0_l p1 r} (h:K192 M fl fu q0_World_Context q0_World_Names q0_World_Types q0_l p1 r Ci):K192 M fl fu q0_World_Context q0_World_Names q0_World_Types q0_l p1 r Ct:=⟨h,⟨(lz rfl),⟨tv,tv,⟨tv,dT _⟩,tv⟩,tv⟩,(forall_cons ⟨(lz rfl),(lz rfl),⟨tv,dT _⟩,⟨tv,dI _⟩,⟨tv,dT _⟩,⟨tv,dE _⟩,tv⟩ (forall_cons ⟨⟨tv,dE _⟩,(lz rfl),⟨tv,dI _⟩,⟨tv,dI _⟩,tv⟩ (forall_cons ⟨⟨tv,dE _⟩,⟨tv,dC _⟩,tv⟩ (forall_cons ⟨tv,tv,tv⟩ forall_nil)))),⟨⟨tv,tv,dT _,tv⟩,tv,tv⟩,(forall_cons ⟨(lz rfl),(lz rfl),dT _,dI _,dT _,dE _,tv⟩ (forall_cons ⟨dE _,(lz rfl),dI _,dI _,tv⟩ (forall_cons ⟨dE _,dC _,tv⟩ (forall_cons ⟨tv,tv,tv⟩ forall_nil))))⟩
theorem q193:Qf 193 Tryz.f193:=⟨Tryz.func193,by kernel_rfl⟩
theorem k193 {M fl fu q0_World_Context q0_World_Names q0_World_Types q0_l p1 r} (h:K193 M fl fu q0_World_Context q0_World_Names q0_World_Types q0_l p1 r Ci):K193 M fl fu q0_World_Context q0_World_Names q0_World_Types q0_l p1 r Ct:=⟨h,⟨(lz rfl),⟨tv,tv,⟨tv,dT _⟩,tv⟩,tv⟩,(forall_cons ⟨(lz rfl),(lz rfl),⟨tv,dT _⟩,⟨tv,dI _⟩,⟨tv,dT _⟩,⟨tv,dE _⟩,tv⟩ (forall_cons ⟨⟨tv,dE _⟩,(lz rfl),⟨tv,dI _⟩,⟨tv,dI _⟩,tv⟩ (forall_cons ⟨⟨tv,dE _⟩,⟨tv,dC _⟩,tv⟩ (forall_cons ⟨tv,tv,tv⟩ forall_nil)))),⟨⟨tv,tv,dT _,tv⟩,tv,tv⟩,(forall_cons ⟨(lz rfl),(lz rfl),dT _,dI _,dT _,dE _,tv⟩ (forall_cons ⟨dE _,(lz rfl),dI _,dI _,tv⟩ (forall_cons ⟨dE _,dC _,tv⟩ (forall_cons ⟨tv,tv,tv⟩ forall_nil))))⟩
theorem q194:Qf 194 Tryz.f194:=⟨Tryz.func194,by kernel_rfl⟩
theorem k194 {M fl fu q0_World_Context q0_World_Names q0_World_Types q0_l p1 r} (h:K194 M fl fu q0_World_Context q0_World_Names q0_World_Types q0_l p1 r Ci):K194 M fl fu q0_World_Context q0_World_Names q0_World_Types q0_l p1 r Ct:=⟨h,⟨(lz rfl),⟨tv,tv,⟨tv,dT _⟩,tv⟩,tv⟩,(forall_cons ⟨(lz rfl),(lz rfl),⟨tv,dT _⟩,⟨tv,dI _⟩,⟨tv,dT _⟩,⟨tv,dE _⟩,tv⟩ (forall_cons ⟨⟨tv,dE _⟩,(lz rfl),⟨tv,dI _⟩,⟨tv,dI _⟩,tv⟩ (forall_cons ⟨⟨tv,dE _⟩,⟨tv,dC _⟩,tv⟩ (forall_cons ⟨tv,tv,tv⟩ forall_nil)))),⟨⟨tv,tv,dT _,tv⟩,tv,tv⟩,(forall_cons ⟨(lz rfl),(lz rfl),dT _,dI _,dT _,dE _,tv⟩ (forall_cons ⟨dE _,(lz rfl),dI _,dI _,tv⟩ (forall_cons ⟨dE _,dC _,tv⟩ (forall_cons ⟨tv,tv,tv⟩ forall_nil))))⟩
theorem q247:Qf 247 Tryz.f247:=⟨Tryz.func247,by kernel_rfl⟩
theorem k247 {M fl fu q0_World_Context q0_World_Names q0_World_Types q0_l p1 r} (h:K247 M fl fu q0_World_Context q0_World_Names q0_World_Types q0_l p1 r Ci):K247 M fl fu q0_World_Context q0_World_Names q0_World_Types q0_l p1 r Ct:=⟨h,⟨(lz rfl),⟨tv,tv,⟨tv,dT _⟩,tv⟩,tv⟩,(forall_cons ⟨(lz rfl),(lz rfl),⟨tv,dT _⟩,⟨tv,dI _⟩,⟨tv,dT _⟩,⟨tv,dE _⟩,tv⟩ (forall_cons ⟨⟨tv,dE _⟩,(lz rfl),⟨tv,dI _⟩,⟨tv,dI _⟩,tv⟩ (forall_cons ⟨⟨tv,dE _⟩,⟨tv,dC _⟩,tv⟩ (forall_cons ⟨tv,tv,tv⟩ forall_nil)))),⟨tv,tv,tv⟩,(forall_cons ⟨(lz rfl),(lz rfl),dT _,dI _,dT _,dE _,tv⟩ (forall_cons ⟨dE _,(lz rfl),dI _,dI _,tv⟩ (forall_cons ⟨dE _,dC _,tv⟩ (forall_cons ⟨tv,tv,tv⟩ forall_nil))))⟩
theorem q250:Qf 250 Tryz.f250:=⟨Tryz.func250,by kernel_rfl⟩
theorem k250 {M fl fu q0_World_Context q0_World_Names q0_World_Types q0_l p1 p2 r} (h:K250 M fl fu q0_World_Context q0_World_Names q0_World_Types q0_l p1 p2 r Ci):K250 M fl fu q0_World_Context q0_World_Names q0_World_Types q0_l p1 p2 r Ct:=⟨h,⟨(lz rfl),⟨tv,tv,⟨tv,dT _⟩,tv⟩,⟨tv,tv,⟨tv,dT _⟩,tv⟩,tv⟩,(forall_cons ⟨(lz rfl),(lz rfl),⟨tv,dT _⟩,⟨tv,dI _⟩,⟨tv,dT _⟩,⟨tv,dE _⟩,tv⟩ (forall_cons ⟨⟨tv,dE _⟩,(lz rfl),⟨tv,dI _⟩,⟨tv,dI _⟩,tv⟩ (forall_cons ⟨⟨tv,dE _⟩,⟨tv,dC _⟩,tv⟩ (forall_cons ⟨tv,tv,tv⟩ forall_nil)))),tv,(forall_cons ⟨(lz rfl),(lz rfl),dT _,dI _,dT _,dE _,tv⟩ (forall_cons ⟨dE _,(lz rfl),dI _,dI _,tv⟩ (forall_cons ⟨dE _,dC _,tv⟩ (forall_cons ⟨tv,tv,tv⟩ forall_nil))))⟩
theorem q282:Qf 282 Tryz.f282:=⟨Tryz.func282,by kernel_rfl⟩
theorem k282 {M fl fu q0_World_Context q0_World_Names q0_World_Types q0_l p1 p2 r} (h:K282 M fl fu q0_World_Context q0_World_Names q0_World_Types q0_l p1 p2 r Ci):K282 M fl fu q0_World_Context q0_World_Names q0_World_Types q0_l p1 p2 r Ct:=⟨h,⟨(lz rfl),⟨tv,tv,⟨tv,dT _⟩,tv⟩,⟨tv,tv,⟨tv,dT _⟩,tv⟩,tv⟩,(forall_cons ⟨(lz rfl),(lz rfl),⟨tv,dT _⟩,⟨tv,dI _⟩,⟨tv,dT _⟩,⟨tv,dE _⟩,tv⟩ (forall_cons ⟨⟨tv,dE _⟩,(lz rfl),⟨tv,dI _⟩,⟨tv,dI _⟩,tv⟩ (forall_cons ⟨⟨tv,dE _⟩,⟨tv,dC _⟩,tv⟩ (forall_cons ⟨tv,tv,tv⟩ forall_nil)))),tv,(forall_cons ⟨(lz rfl),(lz rfl),dT _,dI _,dT _,dE _,tv⟩ (forall_cons ⟨dE _,(lz rfl),dI _,dI _,tv⟩ (forall_cons ⟨dE _,dC _,tv⟩ (forall_cons ⟨tv,tv,tv⟩ forall_nil))))⟩
theorem a123_192_193_194_247_250_282:∀ qq:Nat,(∀ M fl fu q0_World_Context q0_World_Names q0_World_Types q0_l p1 r,e123 qq M fl fu q0_World_Context q0_World_Names q0_World_Types q0_l p1 = some r → K123 M fl fu q0_World_Context q0_World_Names q0_World_Types q0_l p1 r Ct) ∧ (∀ M fl fu q0_World_Context q0_World_Names q0_World_Types q0_l p1 r,e192 qq M fl fu q0_World_Context q0_World_Names q0_World_Types q0_l p1 = some r → K192 M fl fu q0_World_Context q0_World_Names q0_World_Types q0_l p1 r Ct) ∧ (∀ M fl fu q0_World_Context q0_World_Names q0_World_Types q0_l p1 r,e193 qq M fl fu q0_World_Context q0_World_Names q0_World_Types q0_l p1 = some r → K193 M fl fu q0_World_Context q0_World_Names q0_World_Types q0_l p1 r Ct) ∧ (∀ M fl fu q0_World_Context q0_World_Names q0_World_Types q0_l p1 r,e194 qq M fl fu q0_World_Context q0_World_Names q0_World_Types q0_l p1 = some r → K194 M fl fu q0_World_Context q0_World_Names q0_World_Types q0_l p1 r Ct) ∧ (∀ M fl fu q0_World_Context q0_World_Names q0_World_Types q0_l p1 r,e247 qq M fl fu q0_World_Context q0_World_Names q0_World_Types q0_l p1 = some r → K247 M fl fu q0_World_Context q0_World_Names q0_World_Types q0_l p1 r Ct) ∧ (∀ M fl fu q0_World_Context q0_World_Names q0_World_Types q0_l p1 p2 r,e250 qq M fl fu q0_World_Context q0_World_Names q0_World_Types q0_l p1 p2 = some r → K250 M fl fu q0_World_Context q0_World_Names q0_World_Types q0_l p1 p2 r Ct) ∧ (∀ M fl fu q0_World_Context q0_World_Names q0_World_Types q0_l p1 p2 r,e282 qq M fl fu q0_World_Context q0_World_Names q0_World_Types q0_l p1 p2 = some r → K282 M fl fu q0_World_Context q0_World_Names q0_World_Types q0_l p1 p2 r Ct):=by
 intro qq
 induction qq with
 | zero =>
  exact ⟨fun _ _ _ _ _ _ _ _ _ h => nn h,fun _ _ _ _ _ _ _ _ _ h => nn h,fun _ _ _ _ _ _ _ _ _ h => nn h,fun _ _ _ _ _ _ _ _ _ h => nn h,fun _ _ _ _ _ _ _ _ _ h => nn h,fun _ _ _ _ _ _ _ _ _ _ h => nn h,fun _ _ _ _ _ _ _ _ _ _ h => nn h⟩
 | succ qq ih =>
  obtain ⟨ih123,ih192,ih193,ih194,ih247,ih250,ih282⟩:=ih
  refine ⟨?_,?_,?_,?_,?_,?_,?_⟩
  intro M fl fu q0_World_Context q0_World_Names q0_World_Types q0_l p1 r h
  rw [e123] at h
  rcases spl h with ⟨h1,h⟩ | ⟨h1,h⟩
  obtain ⟨r2,h3,h⟩:=obind h
  obtain rfl:=sj h
  exact k123 (tF q123 3 [0,1,2,3] (oD (dT r2.1.sub) <| oD (dC M.parts) <| oD (dE M.rl) <| oD (dI M.own) <| oD (dI M.args) <| oD (dE M.l) <| oD (dE q0_l) <| oD (dT q0_World_Types) <| oD (dI q0_World_Names) <| oD (dT q0_World_Context) <| oC 1 [0,1,2,3] (c189 h3) <| oB 1 h1 o0))
  have k:=oB 1 h1 o0
  rcases spl h with ⟨h4,h⟩ | ⟨h4,h⟩
  obtain ⟨r5,h6,h⟩:=obind h
  obtain rfl:=sj h
  exact k123 (tF q123 3 [0,1,2,3] (oD (dT r5.1.sub) <| oD (dC M.parts) <| oD (dE M.rl) <| oD (dI M.own) <| oD (dI M.args) <| oD (dE M.l) <| oD (dE q0_l) <| oD (dT q0_World_Types) <| oD (dI q0_World_Names) <| oD (dT q0_World_Context) <| oC 1 [0,1,2,3] (c190 h6) <| oB 0 h4 k))
  have k:=oB 0 h4 k
  rcases spl h with ⟨h7,h⟩ | ⟨h7,h⟩
  obtain ⟨x8,h9,h⟩:=obind h
  obtain rfl:=sj h
  exact k123 (tF q123 2 [0,1,2,3] (oD (dT x8.type.sub) <| oD (dC M.parts) <| oD (dE M.rl) <| oD (dI M.own) <| oD (dI M.args) <| oD (dE M.l) <| oD (dE q0_l) <| oD (dT q0_World_Types) <| oD (dI q0_World_Names) <| oD (dT q0_World_Context) <| oA 2 (ix22 (o:=.no) h9) <| oB 0 h7 k))
  have k:=oB 0 h7 k
  rcases spl h with ⟨h10,h⟩ | ⟨h10,h⟩
  obtain ⟨x11,h12,h⟩:=obind h
  obtain ⟨r13,h14,h⟩:=obind h
  obtain rfl:=sj h
  exact k123 (tF q123 3 [0,1,2,3] (oD (dT r13.1.sub) <| oD (dC M.parts) <| oD (dE M.rl) <| oD (dI M.own) <| oD (dI M.args) <| oD (dE M.l) <| oD (dE q0_l) <| oD (dT q0_World_Types) <| oD (dI q0_World_Names) <| oD (dT q0_World_Context) <| oC 1 [] (c67 h14) <| oA 3 (ix23 (o:=.no) h12) <| oB 0 h10 k))
  have k:=oB 0 h10 k
  rcases spl h with ⟨h15,h⟩ | ⟨h15,h⟩
  have k:=oB 0 h15 k
  rcases spl h with ⟨h16,h⟩ | ⟨h16,h⟩
  obtain rfl:=sj h
  exact k123 (tF q123 1 [0,1,2,3] (oD (dT ([]:List Tm)) <| oD (dC M.parts) <| oD (dE M.rl) <| oD (dI M.own) <| oD (dI M.args) <| oD (dE M.l) <| oD (dE q0_l) <| oD (dT q0_World_Types) <| oD (dI q0_World_Names) <| oD (dT q0_World_Context) <| oB 1 h16 k))
  obtain ⟨r17,h18,h⟩:=obind h
  obtain rfl:=sj h
  exact k123 (tF q123 1 [0,1,2,3] (oD (dT r17.sub) <| oD (dC M.parts) <| oD (dE M.rl) <| oD (dI M.own) <| oD (dI M.args) <| oD (dE M.l) <| oD (dE q0_l) <| oD (dT q0_World_Types) <| oD (dI q0_World_Names) <| oD (dT q0_World_Context) <| oC 2 [] (c191 h18) <| oB 1 h16 k))
  have k:=oB 0 h15 k
  rcases spl h with ⟨h19,h⟩ | ⟨h19,h⟩
  obtain ⟨r20,h21,h⟩:=obind h
  obtain rfl:=sj h
  exact k123 (tF q123 3 [0,1,2,3] (oD (dT r20.1.sub) <| oD (dC M.parts) <| oD (dE M.rl) <| oD (dI M.own) <| oD (dI M.args) <| oD (dE M.l) <| oD (dE q0_l) <| oD (dT q0_World_Types) <| oD (dI q0_World_Names) <| oD (dT q0_World_Context) <| oC 1 [0,1,2,3] (ih192 _ _ _ _ _ _ _ _ _ h21) <| oB 0 h19 k))
  have k:=oB 0 h19 k
  rcases spl h with ⟨h22,h⟩ | ⟨h22,h⟩
  obtain ⟨r23,h24,h⟩:=obind h
  obtain rfl:=sj h
  exact k123 (tF q123 3 [0,1,2,3] (oD (dT r23.1.sub) <| oD (dC M.parts) <| oD (dE M.rl) <| oD (dI M.own) <| oD (dI M.args) <| oD (dE M.l) <| oD (dE q0_l) <| oD (dT q0_World_Types) <| oD (dI q0_World_Names) <| oD (dT q0_World_Context) <| oC 1 [0,1,2,3] (ih193 _ _ _ _ _ _ _ _ _ h24) <| oB 0 h22 k))
  obtain ⟨r25,h26,h⟩:=obind h
  obtain rfl:=sj h
  exact k123 (tF q123 3 [0,1,2,3] (oD (dT r25.1.sub) <| oD (dC M.parts) <| oD (dE M.rl) <| oD (dI M.own) <| oD (dI M.args) <| oD (dE M.l) <| oD (dE q0_l) <| oD (dT q0_World_Types) <| oD (dI q0_World_Names) <| oD (dT q0_World_Context) <| oC 1 [0,1,2,3] (ih194 _ _ _ _ _ _ _ _ _ h26) <| oB 0 h22 k))
  intro M fl fu q0_World_Context q0_World_Names q0_World_Types q0_l p1 r h
  rw [e192] at h
  obtain ⟨x1,h2,h⟩:=obind h
  obtain ⟨r3,h4,h⟩:=obind h
  have k:=oC 1 [0,1,2,3] (ih247 _ _ _ _ _ _ _ _ _ h4) <| oA 1 (ix23 (o:=.no) h2) o0
  rcases spl h with ⟨h5,h⟩ | ⟨h5,h⟩
  obtain rfl:=sj h
  exact k192 (tF q192 1 [0,1,2,3] (oD (dT ([]:List Tm)) <| oD (dC M.parts) <| oD (dE M.rl) <| oD (dI M.own) <| oD (dI M.args) <| oD (dE M.l) <| oD (dE q0_l) <| oD (dT q0_World_Types) <| oD (dI q0_World_Names) <| oD (dT q0_World_Context) <| oB 2 h5 k))
  obtain ⟨r6,h7,h⟩:=obind h
  obtain ⟨x8,h9,h⟩:=obind h
  obtain ⟨r10,h11,h⟩:=obind h
  have k:=oC 1 [6,1,2,3] (ih247 _ _ _ _ _ _ _ _ _ h11) <| oA 1 (ix23 (o:=.no) h9) <| oC 1 [0,1,2,3] (c248 h7) <| oA 1 (ix23 (o:=.no) h2) <| oB 2 h5 k
  rcases spl h with ⟨h12,h⟩ | ⟨h12,h⟩
  obtain rfl:=sj h
  exact k192 (tF q192 1 [0,1,2,3] (oD (dT ([]:List Tm)) <| oD (dC M.parts) <| oD (dE M.rl) <| oD (dI M.own) <| oD (dI M.args) <| oD (dE M.l) <| oD (dE q0_l) <| oD (dT q0_World_Types) <| oD (dI q0_World_Names) <| oD (dT q0_World_Context) <| oB 2 h12 k))
  obtain ⟨r13,h14,h⟩:=obind h
  obtain rfl:=sj h
  exact k192 (tF q192 1 [0,1,2,3] (oD (dT r13.sub) <| oD (dC M.parts) <| oD (dE M.rl) <| oD (dI M.own) <| oD (dI M.args) <| oD (dE M.l) <| oD (dE q0_l) <| oD (dT q0_World_Types) <| oD (dI q0_World_Names) <| oD (dT q0_World_Context) <| oC 1 [] (c191 h14) <| oB 2 h12 k))
  intro M fl fu q0_World_Context q0_World_Names q0_World_Types q0_l p1 r h
  rw [e193] at h
  obtain ⟨x1,h2,h⟩:=obind h
  obtain ⟨r3,h4,h⟩:=obind h
  have k:=oC 1 [0,1,2,3] (ih247 _ _ _ _ _ _ _ _ _ h4) <| oA 1 (ix23 (o:=.no) h2) o0
  rcases spl h with ⟨h5,h⟩ | ⟨h5,h⟩
  obtain rfl:=sj h
  exact k193 (tF q193 1 [0,1,2,3] (oD (dT ([]:List Tm)) <| oD (dC M.parts) <| oD (dE M.rl) <| oD (dI M.own) <| oD (dI M.args) <| oD (dE M.l) <| oD (dE q0_l) <| oD (dT q0_World_Types) <| oD (dI q0_World_Names) <| oD (dT q0_World_Context) <| oB 2 h5 k))
  obtain ⟨r6,h7,h⟩:=obind h
  obtain ⟨x8,h9,h⟩:=obind h
  obtain ⟨r10,h11,h⟩:=obind h
  have k:=oC 1 [6,1,2,3] (ih123 _ _ _ _ _ _ _ _ _ h11) <| oA 1 (ix23 (o:=.no) h9) <| oC 1 [0,1,2,3] (c248 h7) <| oA 1 (ix23 (o:=.no) h2) <| oB 2 h5 k
  rcases spl h with ⟨h12,h⟩ | ⟨h12,h⟩
  obtain rfl:=sj h
  exact k193 (tF q193 1 [0,1,2,3] (oD (dT ([]:List Tm)) <| oD (dC M.parts) <| oD (dE M.rl) <| oD (dI M.own) <| oD (dI M.args) <| oD (dE M.l) <| oD (dE q0_l) <| oD (dT q0_World_Types) <| oD (dI q0_World_Names) <| oD (dT q0_World_Context) <| oB 3 h12 k))
  obtain ⟨r13,h14,h⟩:=obind h
  obtain ⟨r15,h16,h⟩:=obind h
  obtain rfl:=sj h
  exact k193 (tF q193 3 [0,1,2,3] (oD (dT r15.1.sub) <| oD (dC M.parts) <| oD (dE M.rl) <| oD (dI M.own) <| oD (dI M.args) <| oD (dE M.l) <| oD (dE q0_l) <| oD (dT q0_World_Types) <| oD (dI q0_World_Names) <| oD (dT q0_World_Context) <| oC 0 [] (c249 h16) <| oC 2 [] (c208 h14) <| oA 1 (ix23 (o:=.no) h2) <| oB 3 h12 k))
  intro M fl fu q0_World_Context q0_World_Names q0_World_Types q0_l p1 r h
  rw [e194] at h
  obtain ⟨r1,h2,h⟩:=obind h
  have k:=oC 1 [3] (c163 h2) o0
  rcases spl h with ⟨h3,h⟩ | ⟨h3,h⟩
  obtain rfl:=sj h
  exact k194 (tF q194 1 [0,1,2,3] (oD (dT ([]:List Tm)) <| oD (dC M.parts) <| oD (dE M.rl) <| oD (dI M.own) <| oD (dI M.args) <| oD (dE M.l) <| oD (dE q0_l) <| oD (dT q0_World_Types) <| oD (dI q0_World_Names) <| oD (dT q0_World_Context) <| oB 0 h3 k))
  obtain ⟨x4,h5,h⟩:=obind h
  obtain ⟨r6,h7,h⟩:=obind h
  have k:=oC 1 [0,1,2,3] (ih123 _ _ _ _ _ _ _ _ _ h7) <| oA 1 (ix23 (o:=.no) h5) <| oB 0 h3 k
  rcases spl h with ⟨h8,h⟩ | ⟨h8,h⟩
  obtain rfl:=sj h
  exact k194 (tF q194 1 [0,1,2,3] (oD (dT ([]:List Tm)) <| oD (dC M.parts) <| oD (dE M.rl) <| oD (dI M.own) <| oD (dI M.args) <| oD (dE M.l) <| oD (dE q0_l) <| oD (dT q0_World_Types) <| oD (dI q0_World_Names) <| oD (dT q0_World_Context) <| oB 3 h8 k))
  obtain ⟨r9,h10,h⟩:=obind h
  have k:=oC 3 [1,2,3] (c79 h10) <| oB 3 h8 k
  rcases spl h with ⟨h11,h⟩ | ⟨h11,h⟩
  obtain rfl:=sj h
  exact k194 (tF q194 1 [0,1,2,3] (oD (dT ([]:List Tm)) <| oD (dC M.parts) <| oD (dE M.rl) <| oD (dI M.own) <| oD (dI M.args) <| oD (dE M.l) <| oD (dE q0_l) <| oD (dT q0_World_Types) <| oD (dI q0_World_Names) <| oD (dT q0_World_Context) <| oB 3 h11 k))
  have k:=oB 3 h11 k
  rcases spl h with ⟨h12,h⟩ | ⟨h12,h⟩
  obtain rfl:=sj h
  exact k194 (tF q194 1 [0,1,2,3] (oD (dT ([]:List Tm)) <| oD (dC M.parts) <| oD (dE M.rl) <| oD (dI M.own) <| oD (dI M.args) <| oD (dE M.l) <| oD (dE q0_l) <| oD (dT q0_World_Types) <| oD (dI q0_World_Names) <| oD (dT q0_World_Context) <| oB 1 h12 k))
  obtain ⟨x13,h14,h⟩:=obind h
  obtain ⟨x15,h16,h⟩:=obind h
  obtain ⟨r17,h18,h⟩:=obind h
  have k:=oC 1 [0,1,2,3] (ih250 _ _ _ _ _ _ _ _ _ _ h18) <| oA 2 (ix23 (o:=.no) h16) <| oA 1 (ix23 (o:=.no) h14) <| oB 1 h12 k
  rcases spl h with ⟨h19,h⟩ | ⟨h19,h⟩
  obtain rfl:=sj h
  exact k194 (tF q194 1 [0,1,2,3] (oD (dT ([]:List Tm)) <| oD (dC M.parts) <| oD (dE M.rl) <| oD (dI M.own) <| oD (dI M.args) <| oD (dE M.l) <| oD (dE q0_l) <| oD (dT q0_World_Types) <| oD (dI q0_World_Names) <| oD (dT q0_World_Context) <| oB 0 h19 k))
  obtain ⟨x20,h21,h⟩:=obind h
  obtain ⟨r22,h23,h⟩:=obind h
  obtain rfl:=sj h
  exact k194 (tF q194 3 [0,1,2,3] (oD (dT r22.1.sub) <| oD (dC M.parts) <| oD (dE M.rl) <| oD (dI M.own) <| oD (dI M.args) <| oD (dE M.l) <| oD (dE q0_l) <| oD (dT q0_World_Types) <| oD (dI q0_World_Names) <| oD (dT q0_World_Context) <| oC 1 [] (c159 h23) <| oA 2 (ix23 (o:=.no) h14) <| oA 1 (ix23 (o:=.no) h21) <| oB 0 h19 k))
  intro M fl fu q0_World_Context q0_World_Names q0_World_Types q0_l p1 r h
  rw [e247] at h
  obtain ⟨r1,h2,h⟩:=obind h
  have k:=oC 1 [0,1,2,3] (ih123 _ _ _ _ _ _ _ _ _ h2) o0
  rcases spl h with ⟨h3,h⟩ | ⟨h3,h⟩
  obtain rfl:=sj h
  exact k247 (tF q247 0 [0,1,2,3] (oD (dC M.parts) <| oD (dE M.rl) <| oD (dI M.own) <| oD (dI M.args) <| oD (dE M.l) <| oD (dE q0_l) <| oD (dT q0_World_Types) <| oD (dI q0_World_Names) <| oD (dT q0_World_Context) <| oB 3 h3 k))
  obtain ⟨r4,h5,h⟩:=obind h
  have k:=oC 3 [1,2,3] (c79 h5) <| oB 3 h3 k
  rcases spl h with ⟨h6,h⟩ | ⟨h6,h⟩
  obtain rfl:=sj h
  exact k247 (tF q247 0 [0,1,2,3] (oD (dC M.parts) <| oD (dE M.rl) <| oD (dI M.own) <| oD (dI M.args) <| oD (dE M.l) <| oD (dE q0_l) <| oD (dT q0_World_Types) <| oD (dI q0_World_Names) <| oD (dT q0_World_Context) <| oB 3 h6 k))
  have k:=oB 3 h6 k
  rcases spl h with ⟨h7,h⟩ | ⟨h7,h⟩
  obtain rfl:=sj h
  exact k247 (tF q247 0 [0,1,2,3] (oD (dC M.parts) <| oD (dE M.rl) <| oD (dI M.own) <| oD (dI M.args) <| oD (dE M.l) <| oD (dE q0_l) <| oD (dT q0_World_Types) <| oD (dI q0_World_Names) <| oD (dT q0_World_Context) <| oB 1 h7 k))
  obtain rfl:=sj h
  exact k247 (tF q247 1 [0,1,2,3] (oD (dC M.parts) <| oD (dE M.rl) <| oD (dI M.own) <| oD (dI M.args) <| oD (dE M.l) <| oD (dE q0_l) <| oD (dT q0_World_Types) <| oD (dI q0_World_Names) <| oD (dT q0_World_Context) <| oB 1 h7 k))
  intro M fl fu q0_World_Context q0_World_Names q0_World_Types q0_l p1 p2 r h
  rw [e250] at h
  rcases spl h with ⟨h1,h⟩ | ⟨h1,h⟩
  obtain ⟨r2,h3,h⟩:=obind h
  have k:=oC 3 [1,2,3] (c79 h3) <| oB 1 h1 o0
  rcases spl h with ⟨h4,h⟩ | ⟨h4,h⟩
  obtain rfl:=sj h
  exact k250 (tF q250 0 [0,1,2,3] (oD (dC M.parts) <| oD (dE M.rl) <| oD (dI M.own) <| oD (dI M.args) <| oD (dE M.l) <| oD (dE q0_l) <| oD (dT q0_World_Types) <| oD (dI q0_World_Names) <| oD (dT q0_World_Context) <| oB 3 h4 k))
  have k:=oB 3 h4 k
  rcases spl h with ⟨h5,h⟩ | ⟨h5,h⟩
  obtain ⟨r6,h7,h⟩:=obind h
  obtain rfl:=sj h
  exact k250 (tF q250 0 [0,1,2,3] (oD (dC M.parts) <| oD (dE M.rl) <| oD (dI M.own) <| oD (dI M.args) <| oD (dE M.l) <| oD (dE q0_l) <| oD (dT q0_World_Types) <| oD (dI q0_World_Names) <| oD (dT q0_World_Context) <| oC 2 [0,1,2,3] (ih282 _ _ _ _ _ _ _ _ _ _ h7) <| oB 1 h5 k))
  obtain ⟨r8,h9,h⟩:=obind h
  have k:=oC 1 [0,1,2,3] (ih123 _ _ _ _ _ _ _ _ _ h9) <| oB 1 h5 k
  rcases spl h with ⟨h10,h⟩ | ⟨h10,h⟩
  obtain rfl:=sj h
  exact k250 (tF q250 0 [0,1,2,3] (oD (dC M.parts) <| oD (dE M.rl) <| oD (dI M.own) <| oD (dI M.args) <| oD (dE M.l) <| oD (dE q0_l) <| oD (dT q0_World_Types) <| oD (dI q0_World_Names) <| oD (dT q0_World_Context) <| oB 3 h10 k))
  obtain ⟨r11,h12,h⟩:=obind h
  have k:=oC 4 [1,2,3] (c283 h12) <| oB 3 h10 k
  rcases spl h with ⟨h13,h⟩ | ⟨h13,h⟩
  have k:=oB 0 h13 k
  rcases spl h with ⟨h14,h⟩ | ⟨h14,h⟩
  obtain rfl:=sj h
  exact k250 (tF q250 1 [0,1,2,3] (oD (dC M.parts) <| oD (dE M.rl) <| oD (dI M.own) <| oD (dI M.args) <| oD (dE M.l) <| oD (dE q0_l) <| oD (dT q0_World_Types) <| oD (dI q0_World_Names) <| oD (dT q0_World_Context) <| oB 1 h14 k))
  obtain rfl:=sj h
  exact k250 (tF q250 0 [0,1,2,3] (oD (dC M.parts) <| oD (dE M.rl) <| oD (dI M.own) <| oD (dI M.args) <| oD (dE M.l) <| oD (dE q0_l) <| oD (dT q0_World_Types) <| oD (dI q0_World_Names) <| oD (dT q0_World_Context) <| oB 1 h14 k))
  have k:=oB 0 h13 k
  rcases spl h with ⟨h15,h⟩ | ⟨h15,h⟩
  obtain rfl:=sj h
  exact k250 (tF q250 1 [0,1,2,3] (oD (dC M.parts) <| oD (dE M.rl) <| oD (dI M.own) <| oD (dI M.args) <| oD (dE M.l) <| oD (dE q0_l) <| oD (dT q0_World_Types) <| oD (dI q0_World_Names) <| oD (dT q0_World_Context) <| oB 1 h15 k))
  obtain rfl:=sj h
  exact k250 (tF q250 0 [0,1,2,3] (oD (dC M.parts) <| oD (dE M.rl) <| oD (dI M.own) <| oD (dI M.args) <| oD (dE M.l) <| oD (dE q0_l) <| oD (dT q0_World_Types) <| oD (dI q0_World_Names) <| oD (dT q0_World_Context) <| oB 1 h15 k))
  obtain ⟨r16,h17,h⟩:=obind h
  have k:=oC 1 [0,1,2,3] (ih123 _ _ _ _ _ _ _ _ _ h17) <| oB 1 h1 o0
  rcases spl h with ⟨h18,h⟩ | ⟨h18,h⟩
  obtain rfl:=sj h
  exact k250 (tF q250 0 [0,1,2,3] (oD (dC M.parts) <| oD (dE M.rl) <| oD (dI M.own) <| oD (dI M.args) <| oD (dE M.l) <| oD (dE q0_l) <| oD (dT q0_World_Types) <| oD (dI q0_World_Names) <| oD (dT q0_World_Context) <| oB 3 h18 k))
  obtain ⟨r19,h20,h⟩:=obind h
  have k:=oC 4 [1,2,3] (c283 h20) <| oB 3 h18 k
  rcases spl h with ⟨h21,h⟩ | ⟨h21,h⟩
  have k:=oB 0 h21 k
  rcases spl h with ⟨h22,h⟩ | ⟨h22,h⟩
  obtain rfl:=sj h
  exact k250 (tF q250 1 [0,1,2,3] (oD (dC M.parts) <| oD (dE M.rl) <| oD (dI M.own) <| oD (dI M.args) <| oD (dE M.l) <| oD (dE q0_l) <| oD (dT q0_World_Types) <| oD (dI q0_World_Names) <| oD (dT q0_World_Context) <| oB 1 h22 k))
  obtain rfl:=sj h
  exact k250 (tF q250 0 [0,1,2,3] (oD (dC M.parts) <| oD (dE M.rl) <| oD (dI M.own) <| oD (dI M.args) <| oD (dE M.l) <| oD (dE q0_l) <| oD (dT q0_World_Types) <| oD (dI q0_World_Names) <| oD (dT q0_World_Context) <| oB 1 h22 k))
  have k:=oB 0 h21 k
  rcases spl h with ⟨h23,h⟩ | ⟨h23,h⟩
  obtain rfl:=sj h
  exact k250 (tF q250 1 [0,1,2,3] (oD (dC M.parts) <| oD (dE M.rl) <| oD (dI M.own) <| oD (dI M.args) <| oD (dE M.l) <| oD (dE q0_l) <| oD (dT q0_World_Types) <| oD (dI q0_World_Names) <| oD (dT q0_World_Context) <| oB 1 h23 k))
  obtain rfl:=sj h
  exact k250 (tF q250 0 [0,1,2,3] (oD (dC M.parts) <| oD (dE M.rl) <| oD (dI M.own) <| oD (dI M.args) <| oD (dE M.l) <| oD (dE q0_l) <| oD (dT q0_World_Types) <| oD (dI q0_World_Names) <| oD (dT q0_World_Context) <| oB 1 h23 k))
  intro M fl fu q0_World_Context q0_World_Names q0_World_Types q0_l p1 p2 r h
  rw [e282] at h
  obtain ⟨x1,h2,h⟩:=obind h
  obtain ⟨r3,h4,h⟩:=obind h
  have k:=oC 1 [0,1,2,3] (ih247 _ _ _ _ _ _ _ _ _ h4) <| oA 1 (ix23 (o:=.no) h2) o0
  rcases spl h with ⟨h5,h⟩ | ⟨h5,h⟩
  obtain rfl:=sj h
  exact k282 (tF q282 0 [0,1,2,3] (oD (dC M.parts) <| oD (dE M.rl) <| oD (dI M.own) <| oD (dI M.args) <| oD (dE M.l) <| oD (dE q0_l) <| oD (dT q0_World_Types) <| oD (dI q0_World_Names) <| oD (dT q0_World_Context) <| oB 2 h5 k))
  obtain ⟨x6,h7,h⟩:=obind h
  obtain ⟨r8,h9,h⟩:=obind h
  have k:=oC 2 [1,2,3] (c308 h9) <| oA 2 (ix23 (o:=.no) h7) <| oA 2 (ix23 (o:=.no) h2) <| oB 2 h5 k
  rcases spl h with ⟨h10,h⟩ | ⟨h10,h⟩
  have k:=oB 0 h10 k
  rcases spl h with ⟨h11,h⟩ | ⟨h11,h⟩
  obtain rfl:=sj h
  exact k282 (tF q282 0 [0,1,2,3] (oD (dC M.parts) <| oD (dE M.rl) <| oD (dI M.own) <| oD (dI M.args) <| oD (dE M.l) <| oD (dE q0_l) <| oD (dT q0_World_Types) <| oD (dI q0_World_Names) <| oD (dT q0_World_Context) <| oB 1 h11 k))
  obtain ⟨r12,h13,h⟩:=obind h
  obtain ⟨x14,h15,h⟩:=obind h
  obtain ⟨x16,h17,h⟩:=obind h
  obtain ⟨r18,h19,h⟩:=obind h
  obtain rfl:=sj h
  exact k282 (tF q282 0 [0,1,2,3] (oD (dC M.parts) <| oD (dE M.rl) <| oD (dI M.own) <| oD (dI M.args) <| oD (dE M.l) <| oD (dE q0_l) <| oD (dT q0_World_Types) <| oD (dI q0_World_Names) <| oD (dT q0_World_Context) <| oC 1 [6,1,2,3] (ih250 _ _ _ _ _ _ _ _ _ _ h19) <| oA 2 (ix23 (o:=.no) h17) <| oA 1 (ix23 (o:=.no) h15) <| oC 1 [0,1,2,3] (c248 h13) <| oA 2 (ix23 (o:=.no) h7) <| oB 1 h11 k))
  have k:=oB 0 h10 k
  rcases spl h with ⟨h20,h⟩ | ⟨h20,h⟩
  obtain rfl:=sj h
  exact k282 (tF q282 0 [0,1,2,3] (oD (dC M.parts) <| oD (dE M.rl) <| oD (dI M.own) <| oD (dI M.args) <| oD (dE M.l) <| oD (dE q0_l) <| oD (dT q0_World_Types) <| oD (dI q0_World_Names) <| oD (dT q0_World_Context) <| oB 1 h20 k))
  obtain rfl:=sj h
  exact k282 (tF q282 1 [0,1,2,3] (oD (dC M.parts) <| oD (dE M.rl) <| oD (dI M.own) <| oD (dI M.args) <| oD (dE M.l) <| oD (dE q0_l) <| oD (dT q0_World_Types) <| oD (dI q0_World_Names) <| oD (dT q0_World_Context) <| oB 1 h20 k))
theorem c123 {qq M fl fu q0_World_Context q0_World_Names q0_World_Types q0_l p1 r} (h:e123 qq M fl fu q0_World_Context q0_World_Names q0_World_Types q0_l p1 = some r):K123 M fl fu q0_World_Context q0_World_Names q0_World_Types q0_l p1 r Ct:=(a123_192_193_194_247_250_282 _).1 _ _ _ _ _ _ _ _ _ h
end Go.Proofs.YteiddempdecleaaGreat
set_option linter.unusedSectionVars false
namespace Go.Proofs.YteiddempdecleaaGreat
open Go Go.Ab
theorem rightM_sub {l : List Ent} {t x : Tm} (h : RightM l t) (hx : x ∈ t.sub) : RightM l x := by
  have hr := rightM_iff.1 h
  refine rightM_iff.2 ⟨sub_shaped hr.1 hx, ?_⟩
  obtain ⟨k, n, s⟩ := t
  have h2 := hr.2
  rw [AllN, allNL_iff] at h2
  exact h2.2 x hx
abbrev er3 (r : Int × Int × Int) : Int := r.1
abbrev er4u (r : Int × Int × Int × Int) : Int := r.2.1
def QI (R : Int → Int → Tm × Int × Int × Int) (_ : Int) : Prop := ∃ a e, a.Ok ∧ e ≠ 8 ∧ R = fun L U => (a, e, L, U)
def QU (R : Int → Int → Int × Int × Int × Int) (_ : Int) : Prop := ∃ a e, e ≠ 8 ∧ R = fun L U => (a, e, L, U)
def QK (R : Int → Int → Int × Int × Int) (_ : Int) : Prop := ∃ e, e ≠ 8 ∧ R = fun L U => (e, L, U)
def HI (l : List Ent) (ns : List Int) (ts : List Tm) (t : Tm) : Prop := ∀ (ctx : List Tm) (f : Int), OkA ctx → ctx.length + t.nodes ≤ 100000 → 0 ≤ f → Ou (fun L U q => e123 q (machT l) L U ctx ns ts l t) er4 QI True f
def HU (l : List Ent) (ns : List Int) (ts : List Tm) (t : Tm) : Prop := ∀ (ctx : List Tm) (f : Int), OkA ctx → ctx.length + t.nodes ≤ 100000 → 0 ≤ f → Ou (fun L U q => e247 q (machT l) L U ctx ns ts l t) er4u QU True f
def HK (l : List Ent) (ns : List Int) (ts : List Tm) (t : Tm) : Prop := ∀ (ctx : List Tm) (a : Tm) (f : Int), OkA ctx → a.Ok → ctx.length + t.nodes ≤ 100000 → 0 ≤ f → Ou (fun L U q => e250 q (machT l) L U ctx ns ts l t a) er3 QK True f
theorem out_BringI {N : ByteArray → Bool} (l : List Ent) (hE : AllE N l) (he : ∀ e ∈ l, EOk e) (x : Tm) (ho : x.Ok) (f : Int) (hf : 0 ≤ f) : Ou (fun L U q => e79 q (machT l) x L U) er4 (fun R _ => ∃ y e, y.Ok ∧ e ≠ 8 ∧ (e = 0 → shapedT y = true) ∧ R = fun L U => (y, e, L, U)) True f := by
  refine (out_Bring l hE he x ho f hf).mono ?_ fun _ => trivial
  rintro R k _ _ (⟨-, -, rfl⟩ | ⟨hR, y, e, hbr, rfl⟩)
  · exact ⟨zT, 5, zT_ok, by decide, fun h => absurd h (by decide), rfl⟩
  · by_cases e0 : e = 0
    · subst e0
      exact ⟨y, 0, shaped_ok (hbr.shaped hR.shaped rfl), by decide, fun _ => hbr.shaped hR.shaped rfl, by simp⟩
    · exact ⟨zT, e, zT_ok, hbr.e8 hE hR.shaped, fun h => absurd h e0, by simp [e0]⟩
theorem ne8 {e : Int} (h : e = 8) : (e != 0) = true := by rw [h]; decide
theorem out_variable (l : List Ent) (ns : List Int) (ctx ts : List Tm) (n : Int) (hn : 0 ≤ n ∧ n ≤ 1048576) (ho : OkA ctx) (hl : ctx.length ≤ 100000) (L U : Int) : Tot (fun q => e189 q (machT l) L U ctx ns ts l n) (MO 0) := by
  simp only [e189]
  refine Tot.ite (fun _ => Tot.ret ⟨leaf_ok 0 0, fun _ => by decide⟩) fun h => ?_
  have := of_decide_eq_false h
  rw [w64_id (x := (ctx.length : Int) - 1) (by omega) (by omega), w64_id (x := (ctx.length : Int) - 1 - n) (by omega) (by omega)]
  obtain ⟨x, hx, hm⟩ := gidx_lt (l := ctx) (i := (ctx.length : Int) - 1 - n) (by omega) (by omega)
  exact Tot.pure hx (Tot.bind (P := MT 0 (lfT x 0 0 (w64 (n + 1)))) ((ev_Up x _ (ho x hm)).tot (mt_lift x _ 0 (ho x hm))) fun r hr => Tot.ret hr.mo)
theorem out_named (l : List Ent) (ns : List Int) (ctx ts : List Tm) (n : Int) (ho : OkA ts) (hl : ns.length = ts.length) (hl2 : ns.length ≤ 100000) : ∃ r, MO 0 r ∧ ∀ L U, Evt (fun q => e190 q (machT l) L U ctx ns ts l n) r := by
  simp only [e190]
  have key : ∀ m : Nat, m ≤ ns.length → ∃ r, MO 0 r ∧ ∀ L U, Evt (fun q => e190L37628 q (machT l) L U ctx ns ts l n ((m : Int) - 1)) r := by
    intro m
    induction m with
    | zero =>
      intro _
      refine ⟨(zT, 3), ⟨zT_ok, fun _ => by decide⟩, fun L U => Evt.succ ?_⟩
      simp only [e190L37628]
      exact Evt.ifF (decide_eq_false (by omega)) Evt.ret
    | succ m ih =>
      intro hm
      obtain ⟨x, hx, -⟩ := gidx_lt (l := ns) (i := ((m + 1 : Nat) : Int) - 1) (by omega) (by omega)
      by_cases e : x = n
      · obtain ⟨y, hy, hym⟩ := gidx_lt (l := ts) (i := ((m + 1 : Nat) : Int) - 1) (by omega) (by omega)
        refine ⟨liftT y (ctx.length : Int) 0, (mt_lift y _ 0 (ho y hym)).mo, fun L U => Evt.succ ?_⟩
        simp only [e190L37628]
        exact Evt.ifT (decide_eq_true (by omega)) (Evt.pure hx (Evt.ifT (by simpa using e) (Evt.pure hy ((ev_Up y _ (ho y hym)).bind Evt.ret))))
      · obtain ⟨r, h1, h2⟩ := ih (by omega)
        refine ⟨r, h1, fun L U => Evt.succ ?_⟩
        simp only [e190L37628]
        refine Evt.ifT (decide_eq_true (by omega)) (Evt.pure hx (Evt.ifF (by simpa using e) ?_))
        rw [w64_id (by omega) (by omega), show ((m + 1 : Nat) : Int) - 1 - 1 = (m : Int) - 1 by omega]
        exact h2 L U
  rw [w64_id (by omega) (by omega)]
  exact key ns.length (Nat.le_refl _)
theorem ev_deeper (l : List Ent) (ns : List Int) (ctx ts : List Tm) (a : Tm) (hl : ctx.length ≤ 100000) (L U : Int) : Evt (fun q => e248 q (machT l) L U ctx ns ts l a) (ctx ++ [a], ns, ts, l) := by
  simp only [e248]
  exact Evt.pure (a := ctx) (by rw [gsl_from (by omega) (by omega)]; simp) (Evt.pure (gapp_ok (by simp <;> omega)) Evt.ret)
section
variable {N : ByteArray → Bool} (l : List Ent) (hE : AllE N l) (he : ∀ e ∈ l, EOk e) (hl : l.length ≤ 65535) (hc : ∀ e ∈ l, ECl e) (hF : Evt (fun q => e73 q l) true) (ns : List Int) (ts : List Tm) (hts : OkA ts) (hns : ns.length = ts.length) (hnl : ns.length ≤ 100000)
include hE he hl hc hF hts hns hnl
theorem out_univ (t : Tm) (hi : HI l ns ts t) : HU l ns ts t := by
  intro ctx f ho hn hf
  refine Ou.succ ?_
  simp only [e247]
  refine Ou.bind (hi ctx f ho hn hf) id (fun r hr => ⟨_, Evt.ifT (ne8 hr) Evt.ret, hr⟩) ?_
  rintro R k k0 k1 ⟨a, e, ha, h8, rfl⟩
  dsimp only
  refine Ou.ite (fun h => Ou.ret (by omega) ⟨0, e, h8, rfl⟩) fun _ => ?_
  refine Ou.bind (out_BringI l hE he a ha (f - k) (by omega)) id (fun r hr => ⟨_, Evt.ifT (ne8 hr) Evt.ret, hr⟩) ?_
  rintro R n n0 n1 ⟨y, e, hy, h8, -, rfl⟩
  dsimp only
  exact Ou.ite (fun h => Ou.ret (by omega) ⟨0, e, h8, rfl⟩) fun _ => Ou.ite (fun _ => Ou.ret (by omega) ⟨0, 6, by decide, rfl⟩) fun _ => Ou.ret (by omega) ⟨y.n, 0, by decide, rfl⟩
theorem out_infer (n : Nat) (ih : ∀ t, RightM l t → t.nodes ≤ n → HI l ns ts t ∧ HU l ns ts t ∧ HK l ns ts t) (t : Tm) (hR : RightM l t) (hn : t.nodes ≤ n + 1) : HI l ns ts t := by
  intro ctx f ho hcl hf
  have hs := hR.shaped
  have hg := (shapedT_spec hs).2.2
  have hn0 := good_n hg
  have hnm : t.n ≤ 1048576 := by
    obtain ⟨k, n, ls⟩ := t
    exact (head_n (goodT_mk hg).1).2.1
  have sub2' : t.k = 3 ∨ t.k = 4 ∨ t.k = 5 → ∃ a b, t.sub = [a, b] ∧ RightM l a ∧ RightM l b ∧ a.nodes + b.nodes + 1 ≤ t.nodes := fun h => by
    obtain ⟨a, b, hab, -, -⟩ := nth_sub2 hg h
    have hns := nodes_sub t
    rw [hab, nodesL, nodesL, nodesL] at hns
    exact ⟨a, b, hab, rightM_sub hR (by rw [hab]; simp), rightM_sub hR (by rw [hab]; simp), by omega⟩
  refine Ou.succ ?_
  simp only [e123]
  refine Ou.ite (fun h => ?_) fun h1 => ?_
  · obtain ⟨r, hr, h⟩ := out_variable l ns ctx ts t.n ⟨hn0, hnm⟩ ho (by omega) 0 0
    refine Ou.imp (f := fun L U q => some (r.1, r.2, L, U)) (Ou.ret hf ⟨r.1, r.2, h.1, h.2 (by decide), rfl⟩) fun L U x hx => Evt.bind (a := r) ?_ hx
    obtain ⟨m, hm⟩ := hr
    exact ⟨m, hm⟩
  refine Ou.ite (fun h => ?_) fun h8 => ?_
  · obtain ⟨r, h, hr⟩ := out_named l ns ctx ts t.n hts hns hnl
    exact Ou.imp (f := fun L U q => some (r.1, r.2, L, U)) (Ou.ret hf ⟨r.1, r.2, h.1, h.2 (by decide), rfl⟩) fun L U x hx => Evt.bind (a := r) (hr L U) hx
  refine Ou.ite (fun h => ?_) fun h6 => ?_
  · have h6 : t.k = 6 := by simpa using h
    have hlt : t.n < l.length := by
      have hr := (rightM_iff.1 hR).2
      obtain ⟨k, n, s⟩ := t
      rw [AllN] at hr
      have h6' : k = 6 := h6
      exact (hr.1.resolve_left (by omega)) (.inl h6')
    exact Ou.pure (gidx_ent hn0 hlt) (Ou.ret hf ⟨_, 0, (he _ (ent_mem hn0 hlt)).1, by decide, rfl⟩)
  refine Ou.ite (fun h => ?_) fun h7 => ?_
  · have h7 : t.k = 7 := by simpa using h
    obtain ⟨s, hsb⟩ : ∃ s, t.sub = [s] := by
      obtain ⟨kk, nn, ss⟩ := t
      obtain ⟨s, hs, -⟩ := (head_spec (goodT_mk hg).1).2.2.2.2.2.2.1 h7
      exact ⟨s, hs⟩
    exact Ou.pure (a := s) (by rw [hsb]; rfl) (Ou.tot (tot_iType l t.n s.n hF hE he) fun r hr => Ou.ret hf ⟨r.1, r.2, hr.1, hr.2 (by decide), rfl⟩)
  refine Ou.ite (fun h => ?_) fun h2 => ?_
  · exact Ou.ite (fun _ => Ou.ret hf ⟨_, 7, leaf_ok 0 0, by decide, rfl⟩) fun _ => Ou.evt (ev_Sort _) (Ou.ret hf ⟨_, 0, leaf_ok _ _, by decide, rfl⟩)
  refine Ou.ite (fun h => ?_) fun h3 => ?_
  · have h3 : t.k = 3 := by simpa using h
    obtain ⟨a, b, hab, hRa, hRb, hnn⟩ := sub2' (.inl h3)
    have pa := nodes_pos a
    have pb := nodes_pos b
    refine Ou.bind (er := er4) (Q := QI) (S := True) (Ou.succ ?_) id (fun r hr => ⟨_, Evt.ret, hr⟩) (fun R k k0 k1 hQ => by
      obtain ⟨a, e, h1, h2, rfl⟩ := hQ
      exact Ou.ret (by omega) ⟨a, e, h1, h2, rfl⟩)
    simp only [e192]
    refine Ou.pure (a := a) (by rw [hab]; rfl) (Ou.bind ((ih a hRa (by omega)).2.1 ctx f ho (by omega) hf) id (fun r hr => ⟨_, Evt.ifT (ne8 hr) Evt.ret, hr⟩) ?_)
    rintro R k k0 k1 ⟨i, e, h8, rfl⟩
    dsimp only
    refine Ou.ite (fun h => Ou.ret (by omega) ⟨_, e, leaf_ok 0 0, h8, rfl⟩) fun _ => ?_
    refine Ou.imp (f := fun L U q => e247 q (machT l) L U (ctx ++ [a]) ns ts l b >>= fun r10 => if (r10.2.1 != 0) = true then some ((Tm.mk 0 0 []), r10.2.1, r10.2.2.1, r10.2.2.2) else e191 q (imax i r10.1) >>= fun r13 => some (r13, 0, r10.2.2.1, r10.2.2.2)) ?_ fun L U r h => (ev_deeper l ns ctx ts a (by omega) L U).bind (Evt.pure (a := b) (by rw [hab]; rfl) h)
    refine Ou.bind ((ih b hRb (by omega)).2.1 (ctx ++ [a]) (f - k) (ho.app (OkA.one (shaped_ok hRa.shaped))) (by simp; omega) (by omega)) id (fun r hr => ⟨_, Evt.ifT (ne8 hr) Evt.ret, hr⟩) ?_
    rintro R n n0 n1 ⟨j, e, h8, rfl⟩
    dsimp only
    exact Ou.ite (fun h => Ou.ret (by omega) ⟨_, e, leaf_ok 0 0, h8, rfl⟩) fun _ => Ou.evt (ev_Sort _) (Ou.ret (by omega) ⟨_, 0, leaf_ok _ _, by decide, rfl⟩)
  refine Ou.ite (fun h => ?_) fun h4 => ?_
  · have h4 : t.k = 4 := by simpa using h
    obtain ⟨a, b, hab, hRa, hRb, hnn⟩ := sub2' (.inr (.inl h4))
    have pa := nodes_pos a
    have pb := nodes_pos b
    refine Ou.bind (er := er4) (Q := QI) (S := True) (Ou.succ ?_) id (fun r hr => ⟨_, Evt.ret, hr⟩) (fun R k k0 k1 hQ => by
      obtain ⟨a, e, h1, h2, rfl⟩ := hQ
      exact Ou.ret (by omega) ⟨a, e, h1, h2, rfl⟩)
    simp only [e193]
    refine Ou.pure (a := a) (by rw [hab]; rfl) (Ou.bind ((ih a hRa (by omega)).2.1 ctx f ho (by omega) hf) id (fun r hr => ⟨_, Evt.ifT (ne8 hr) Evt.ret, hr⟩) ?_)
    rintro R k k0 k1 ⟨i, e, h8, rfl⟩
    dsimp only
    refine Ou.ite (fun h => Ou.ret (by omega) ⟨_, e, leaf_ok 0 0, h8, rfl⟩) fun _ => ?_
    refine Ou.imp (f := fun L U q => e123 q (machT l) L U (ctx ++ [a]) ns ts l b >>= fun r10 => if (r10.2.1 != 0) = true then some ((Tm.mk 0 0 []), r10.2.1, r10.2.2.1, r10.2.2.2) else e208 q a r10.1 >>= fun r13 => e249 q r13 >>= fun r15 => some (r15.1, r15.2, r10.2.2.1, r10.2.2.2)) ?_ fun L U r h => (ev_deeper l ns ctx ts a (by omega) L U).bind (Evt.pure (a := b) (by rw [hab]; rfl) h)
    refine Ou.bind ((ih b hRb (by omega)).1 (ctx ++ [a]) (f - k) (ho.app (OkA.one (shaped_ok hRa.shaped))) (by simp; omega) (by omega)) id (fun r hr => ⟨_, Evt.ifT (ne8 hr) Evt.ret, hr⟩) ?_
    rintro R n n0 n1 ⟨c, e, hc, h8, rfl⟩
    dsimp only
    refine Ou.ite (fun h => Ou.ret (by omega) ⟨_, e, leaf_ok 0 0, h8, rfl⟩) fun _ => Ou.evt (a := Tm.mk 3 0 [a, c]) (Evt.mk fun _ => rfl) ?_
    have ok : (Tm.mk 3 0 [a, c]).Ok := ok_mk2 (shaped_ok hRa.shaped) hc
    refine Ou.evt (a := wshT (Tm.mk 3 0 [a, c])) ?_ (Ou.ret (by omega) ⟨_, _, ?_, ?_, rfl⟩)
    · simp only [e249]
      refine (ev_Shaped _ ok).bind ?_
      unfold wshT
      by_cases h : shapedT (Tm.mk 3 0 [a, c]) = true
      · rw [if_pos h, if_pos h]; exact Evt.ret
      · rw [if_neg h, if_neg h]; exact Evt.ret
    · unfold wshT
      split
      · exact ok
      · exact zT_ok
    · unfold wshT; split <;> simp
  have h5 : t.k = 5 := by
    have a1 : t.k ≠ 1 := by simpa using h1
    have a2 : t.k ≠ 2 := by simpa using h2
    have a3 : t.k ≠ 3 := by simpa using h3
    have a4 : t.k ≠ 4 := by simpa using h4
    have a6 : t.k ≠ 6 := by simpa using h6
    have a7 : t.k ≠ 7 := by simpa using h7
    have a8 : t.k ≠ 8 := by simpa using h8
    have b : 1 ≤ t.k ∧ t.k ≤ 8 := by
      obtain ⟨k, n, ls⟩ := t
      have := head_n (goodT_mk hg).1
      exact ⟨this.2.2.1, this.2.2.2.1⟩
    omega
  obtain ⟨a, b, hab, hRa, hRb, hnn⟩ := sub2' (.inr (.inr h5))
  have pa := nodes_pos a
  have pb := nodes_pos b
  refine Ou.bind (er := er4) (Q := QI) (S := True) (Ou.succ ?_) id (fun r hr => ⟨_, Evt.ret, hr⟩) (fun R k k0 k1 hQ => by
    obtain ⟨a, e, h1, h2, rfl⟩ := hQ
    exact Ou.ret (by omega) ⟨a, e, h1, h2, rfl⟩)
  simp only [e194]
  refine Ou.bind (ou_step f hf) (fun _ => trivial) (fun r hr => ⟨_, Evt.ifT (ne8 hr) Evt.ret, hr⟩) ?_
  rintro R k k0 k1 ⟨rfl, rfl⟩
  dsimp only
  refine Ou.ifF rfl (Ou.pure (a := a) (by rw [hab]; rfl) (Ou.bind ((ih a hRa (by omega)).1 ctx (f - 1) ho (by omega) (by omega)) id (fun r hr => ⟨_, Evt.ifT (ne8 hr) Evt.ret, hr⟩) ?_))
  rintro R k j0 j1 ⟨ft, e, hft, h8, rfl⟩
  dsimp only
  refine Ou.ite (fun h => Ou.ret (by omega) ⟨_, e, leaf_ok 0 0, h8, rfl⟩) fun _ => ?_
  refine Ou.bind (out_BringI l hE he ft hft (f - 1 - k) (by omega)) id (fun r hr => ⟨_, Evt.ifT (ne8 hr) Evt.ret, hr⟩) ?_
  rintro R n n0 n1 ⟨p, e, hp, h8, hps, rfl⟩
  dsimp only
  refine Ou.ite (fun h => Ou.ret (by omega) ⟨_, e, leaf_ok 0 0, h8, rfl⟩) fun he0 => Ou.ite (fun _ => Ou.ret (by omega) ⟨_, 6, leaf_ok 0 0, by decide, rfl⟩) fun hp3 => ?_
  have he0' : e = 0 := by simpa using he0
  have hp3' : p.k = 3 := by simpa using hp3
  obtain ⟨c, d, hcd, hgc, hgd⟩ := nth_sub2 (shapedT_spec (hps he0')).2.2 (.inl hp3')
  refine Ou.pure (a := b) (by rw [hab]; rfl) (Ou.pure (a := c) (by rw [hcd]; rfl) (Ou.bind ((ih b hRb (by omega)).2.2 ctx c (f - 1 - k - n) ho (good_ok c hgc) (by omega) (by omega)) id (fun r hr => ⟨_, Evt.ifT (ne8 hr) Evt.ret, hr⟩) ?_))
  rintro R i i0 i1 ⟨e, h8, rfl⟩
  dsimp only
  refine Ou.ite (fun h => Ou.ret (by omega) ⟨_, e, leaf_ok 0 0, h8, rfl⟩) fun _ => Ou.pure (a := d) (by rw [hcd]; rfl) (Ou.evt (ev_One d b (good_ok d hgd) (shaped_ok hRb.shaped)) (Ou.ret (by omega) ⟨_, _, subT_ok _ _ (good_ok d hgd) (OkA.one (shaped_ok hRb.shaped)), subT_e8 _ _, rfl⟩))
theorem out_check (n : Nat) (ih : ∀ t, RightM l t → t.nodes ≤ n → HI l ns ts t ∧ HU l ns ts t ∧ HK l ns ts t) (t : Tm) (hR : RightM l t) (hn : t.nodes ≤ n + 1) (hi : HI l ns ts t) : HK l ns ts t := by
  intro ctx a f ho ha hcl hf
  have hs := hR.shaped
  have hg := (shapedT_spec hs).2.2
  have plain : ∀ g, 0 ≤ g → Ou (fun L U q => e123 q (machT l) L U ctx ns ts l t >>= fun r16 => if (r16.2.1 != 0) = true then some (r16.2.1, r16.2.2.1, r16.2.2.2) else e283 q (machT l) r16.1 a r16.2.2.1 r16.2.2.2 >>= fun r19 => if r19.1 = true then (if (r19.2.1 == 0) = true then some (r19.2.1, r19.2.2.1, r19.2.2.2) else some (r19.2.1, r19.2.2.1, r19.2.2.2)) else (if (r19.2.1 == 0) = true then some (6, r19.2.2.1, r19.2.2.2) else some (r19.2.1, r19.2.2.1, r19.2.2.2))) er3 QK True g := fun g g0 => by
    refine Ou.bind (hi ctx g ho hcl g0) id (fun r hr => ⟨_, Evt.ifT (ne8 hr) Evt.ret, hr⟩) ?_
    rintro R k k0 k1 ⟨b, e, hb, h8, rfl⟩
    dsimp only
    refine Ou.ite (fun h => Ou.ret (by omega) ⟨e, h8, rfl⟩) fun _ => ?_
    refine Ou.bind (out_ask l hE he hl hc true b a hb ha (g - k) (by omega)) (fun _ => trivial) (fun r hr => ?_) ?_
    · have := er4b_8 hr
      exact ⟨_, Evt.ifF this.1 (Evt.ifF (by rw [this.2]; decide) Evt.ret), this.2⟩
    · rintro R n n0 n1 ⟨b', e, h8, -, -, rfl⟩
      dsimp only
      exact Ou.ite (fun _ => Ou.ite (fun _ => Ou.ret (by omega) ⟨e, h8, rfl⟩) fun _ => Ou.ret (by omega) ⟨e, h8, rfl⟩) fun _ => Ou.ite (fun _ => Ou.ret (by omega) ⟨6, by decide, rfl⟩) fun _ => Ou.ret (by omega) ⟨e, h8, rfl⟩
  refine Ou.succ ?_
  simp only [e250]
  refine Ou.ite (fun h => ?_) fun _ => plain f hf
  have h4 : t.k = 4 := by simpa using h
  obtain ⟨u, v, huv, -, -⟩ := nth_sub2 hg (.inr (.inl h4))
  have hRu := rightM_sub hR (x := u) (by rw [huv]; simp)
  have hRv := rightM_sub hR (x := v) (by rw [huv]; simp)
  have hnn := nodes_sub t
  rw [huv, nodesL, nodesL, nodesL] at hnn
  have pu := nodes_pos u
  have pv := nodes_pos v
  refine Ou.bind (out_BringI l hE he a ha f hf) id (fun r hr => ⟨_, Evt.ifT (ne8 hr) Evt.ret, hr⟩) ?_
  rintro R k k0 k1 ⟨p, e, hp, h8, hps, rfl⟩
  dsimp only
  refine Ou.ite (fun h => Ou.ret (by omega) ⟨e, h8, rfl⟩) fun he0 => Ou.ite (fun hp3 => ?_) fun _ => plain (f - k) (by omega)
  have he0' : e = 0 := by simpa using he0
  have hp3' : p.k = 3 := by simpa using hp3
  obtain ⟨c, d, hcd, hgc, hgd⟩ := nth_sub2 (shapedT_spec (hps he0')).2.2 (.inl hp3')
  refine Ou.bind (er := er3) (Q := QK) (S := True) (Ou.succ ?_) id (fun r hr => ⟨_, Evt.ret, hr⟩) (fun R k k0 k1 hQ => by
    obtain ⟨e, h2, rfl⟩ := hQ
    exact Ou.ret (by omega) ⟨e, h2, rfl⟩)
  simp only [e282]
  refine Ou.pure (a := u) (by rw [huv]; rfl) (Ou.bind ((ih u hRu (by omega)).2.1 ctx (f - k) ho (by omega) (by omega)) id (fun r hr => ⟨_, Evt.ifT (ne8 hr) Evt.ret, hr⟩) ?_)
  rintro R j j0 j1 ⟨i, e, h8, rfl⟩
  dsimp only
  refine Ou.ite (fun h => Ou.ret (by omega) ⟨e, h8, rfl⟩) fun _ => Ou.pure (a := c) (by rw [hcd]; rfl) ?_
  refine Ou.bind (out_ask l hE he hl hc false u c (shaped_ok hRu.shaped) (good_ok c hgc) (f - k - j) (by omega)) (fun _ => trivial) (fun r hr => ?_) ?_
  · have := er4b_8 hr
    exact ⟨_, Evt.ifF this.1 (Evt.ifT (ne8 this.2) Evt.ret), this.2⟩
  · rintro R n n0 n1 ⟨b', e, h8, -, -, rfl⟩
    dsimp only
    refine Ou.ite (fun _ => Ou.ite (fun _ => Ou.ret (by omega) ⟨e, h8, rfl⟩) fun _ => ?_) fun _ => Ou.ite (fun _ => Ou.ret (by omega) ⟨e, h8, rfl⟩) fun _ => Ou.ret (by omega) ⟨6, by decide, rfl⟩
    refine Ou.imp (f := fun L U q => e250 q (machT l) L U (ctx ++ [c]) ns ts l v d >>= fun r18 => some (r18.1, r18.2.1, r18.2.2)) ?_ fun L U r h => (ev_deeper l ns ctx ts c (by omega) L U).bind (Evt.pure (a := v) (by rw [huv]; rfl) (Evt.pure (a := d) (by rw [hcd]; rfl) h))
    refine Ou.bind ((ih v hRv (by omega)).2.2 (ctx ++ [c]) d (f - k - j - n) (ho.app (OkA.one (good_ok c hgc))) (good_ok d hgd) (by simp; omega) (by omega)) id (fun r hr => ⟨_, Evt.ret, hr⟩) ?_
    rintro R m m0 m1 ⟨e, h8, rfl⟩
    exact Ou.ret (by omega) ⟨e, h8, rfl⟩
theorem out_all3 : ∀ (n : Nat) (t : Tm), RightM l t → t.nodes ≤ n → HI l ns ts t ∧ HU l ns ts t ∧ HK l ns ts t
  | 0, t, _, h => by have := nodes_pos t; omega
  | n + 1, t, hR, hn => by
    have ih := out_all3 n
    have hi := out_infer l hE he hl hc hF ns ts hts hns hnl n ih t hR hn
    exact ⟨hi, out_univ l hE he hl hc hF ns ts hts hns hnl t hi, out_check l hE he hl hc hF ns ts hts hns hnl n ih t hR hn hi⟩
end
def e57L42931:Nat → (List Tm) → Int → Option (Bool)
 | 0,_,_ => none
 | qq + 1,l13,v6 =>
 if decide (v6 < (List.length l13:Int)) then
 gidx l13 v6 >>= fun x17 =>
 e77 qq x17 >>= fun r19 =>
 if decide (r19 > 200) then
 some false
 else
 e57L42931 qq l13 (w64 (v6 + 1))
 else
 some true
def e57 (qq:Nat) (p0:L17Case) (p1:List Tm):Option (Bool) :=
 if decide ((List.length p0.l_:Int) > 60) then
 some false
 else
 if decide ((List.length p0.context_:Int) > 12) then
 some false
 else
 if decide ((List.length p0.names_:Int) > 12) then
 some false
 else
 if decide ((List.length p0.types_:Int) > 12) then
 some false
 else
 if decide ((List.length p1:Int) > 8) then
 some false
 else
 if decide (p0.fuel_ > 600) then
 some false
 else
 gapp 40 ([]:List Tm) p0.context_ >>= fun l7 =>
 gapp 40 l7 p0.types_ >>= fun l10 =>
 gapp 40 l10 p1 >>= fun l13 =>
 e57L42931 qq l13 0
def g57L42931E0 (j:Nat → Value) (l13:List Tm) (v6:Int):=sp j 60 0 [(5,slv tmCells l13 .full),(6,ai v6)]
def g57L42931S0 (l13:List Tm) (v6:Int):LSt:=⟨[],0,[],0,[]⟩
def g57L42931E1 (j:Nat → Value) (l13:List Tm) (v6:Int):=sp j 60 0 [(5,slv tmCells l13 (.st 0 3)),(6,ai v6)]
def g57L42931S1 (l13:List Tm) (v6:Int):LSt:=⟨[],0,[0],1,[]⟩
abbrev K57 (p0:L17Case) (p1:List Tm) (r:Bool) (C:Cf):Prop:=C 57 [] [l17CaseA p0,slv tmCells p1 .no] (ab r) [] 0
theorem q57:Qf 57 Tryz.f57:=⟨Tryz.func57,by kernel_rfl⟩
theorem k57 {p0 p1 r} (h:K57 p0 p1 r Ci):K57 p0 p1 r Ct:=⟨h,⟨⟨⟨tv,dE _⟩,⟨tv,dT _⟩,⟨tv,dI _⟩,⟨tv,dT _⟩,tv,tv⟩,⟨tv,dT _⟩,tv⟩,forall_nil,tv,forall_nil⟩
theorem l57L42931:∀ qq:Nat,(∀ l13 v6 r,e57L42931 qq l13 v6 = some r → (∀ j,Dl Tryz.prog 0 (inn (inn (rgt (lft (rgt (rgt (rgt (bod Tryz.f57)))))))) (g57L42931E0 j l13 v6) (g57L42931S0 l13 v6) (frameQ Tryz.prog 0 (FinQ Tryz.prog 0 Tryz.f57 (ab r) [] 0) [.blk 0,.seq (rgt (rgt (rgt (rgt (bod Tryz.f57)))))])) ∧ (∀ j,Dl Tryz.prog 0 (inn (inn (rgt (lft (rgt (rgt (rgt (bod Tryz.f57)))))))) (g57L42931E1 j l13 v6) (g57L42931S1 l13 v6) (frameQ Tryz.prog 0 (FinQ Tryz.prog 0 Tryz.f57 (ab r) [] 0) [.blk 0,.seq (rgt (rgt (rgt (rgt (bod Tryz.f57)))))]))):=by
 intro qq
 induction qq with
 | zero =>
  exact fun _ _ _ h => nn h
 | succ qq ih =>
  intro l13 v6 r h
  rw [e57L42931] at h
  refine ⟨?_,?_⟩
  rcases spl h with ⟨h16,h⟩ | ⟨h16,h⟩
  obtain ⟨x17,h18,h⟩:=obind h
  obtain ⟨r19,h20,h⟩:=obind h
  have k:=oC 1 [] (c77 h20) <| oA 0 (ix23 (o:=.full) h18) <| oB 1 h16 o0
  rcases spl h with ⟨h21,h⟩ | ⟨h21,h⟩
  obtain rfl:=sj h
  exact fun j => lF 0 [] (oB 0 h21 k)
  exact fun j => lH 1 [] [] [] [5,6] (oD (dT l13) <| oB 0 h21 k) ((ih _ _ _ h).1)
  obtain rfl:=sj h
  exact fun j => lF 0 [] (oB 1 h16 o0)
  rcases spl h with ⟨h16,h⟩ | ⟨h16,h⟩
  obtain ⟨x17,h18,h⟩:=obind h
  obtain ⟨r19,h20,h⟩:=obind h
  have k:=oC 1 [] (c77 h20) <| oA 0 (ix23 (o:=(.st 0 3)) h18) <| oB 1 h16 o0
  rcases spl h with ⟨h21,h⟩ | ⟨h21,h⟩
  obtain rfl:=sj h
  exact fun j => lF 0 [] (oB 0 h21 k)
  exact fun j => lH 1 [] [] [0] [5,6] (oD (dT l13) <| oB 0 h21 k) ((ih _ _ _ h).2)
  obtain rfl:=sj h
  exact fun j => lF 0 [] (oB 1 h16 o0)
theorem c57 {qq p0 p1 r} (h:e57 qq p0 p1 = some r):K57 p0 p1 r Ct:=by
 unfold e57 at h
 rcases spl h with ⟨h1,h⟩ | ⟨h1,h⟩
 obtain rfl:=sj h
 exact k57 (tF q57 0 [] (oB 2 h1 o0))
 have k:=oB 2 h1 o0
 rcases spl h with ⟨h2,h⟩ | ⟨h2,h⟩
 obtain rfl:=sj h
 exact k57 (tF q57 0 [] (oB 2 h2 k))
 have k:=oB 2 h2 k
 rcases spl h with ⟨h3,h⟩ | ⟨h3,h⟩
 obtain rfl:=sj h
 exact k57 (tF q57 0 [] (oB 2 h3 k))
 have k:=oB 2 h3 k
 rcases spl h with ⟨h4,h⟩ | ⟨h4,h⟩
 obtain rfl:=sj h
 exact k57 (tF q57 0 [] (oB 2 h4 k))
 have k:=oB 2 h4 k
 rcases spl h with ⟨h5,h⟩ | ⟨h5,h⟩
 obtain rfl:=sj h
 exact k57 (tF q57 0 [] (oB 1 h5 k))
 have k:=oB 1 h5 k
 rcases spl h with ⟨h6,h⟩ | ⟨h6,h⟩
 obtain rfl:=sj h
 exact k57 (tF q57 0 [] (oB 1 h6 k))
 obtain ⟨l7,h8,h⟩:=obind h
 have k:=oB 1 h6 k
 by_cases h9:List.length p0.context_ = 0
 obtain ⟨l10,h11,h⟩:=obind h
 have k:=oP 2 (apN23 h8 h9) k
 by_cases h12:List.length p0.types_ = 0
 obtain ⟨l13,h14,h⟩:=obind h
 have k:=oP 1 (apN23 h11 h12) k
 by_cases h15:List.length p1 = 0
 exact k57 (tH q57 0 [] [] [] [5,6] (oD (dT l13) <| oP 0 (apN23 h14 h15) k) ((l57L42931 _ _ _ _ h).1))
 exact k57 (tH q57 0 [] [] [0] [5,6] (oD (dT l13) <| oP 0 (apS23 h14 h15) k) ((l57L42931 _ _ _ _ h).2))
 obtain ⟨l13,h14,h⟩:=obind h
 have k:=oP 1 (apS23 h11 h12) k
 by_cases h15:List.length p1 = 0
 exact k57 (tH q57 0 [] [] [0] [5,6] (oD (dT l13) <| oP 0 (apN23 h14 h15) k) ((l57L42931 _ _ _ _ h).2))
 exact k57 (tH q57 0 [] [] [1] [5,6] (oD (dT l13) <| oP 0 (apS23 h14 h15) k) ((l57L42931 _ _ _ _ h).2))
 obtain ⟨l10,h11,h⟩:=obind h
 have k:=oP 2 (apS23 h8 h9) k
 by_cases h12:List.length p0.types_ = 0
 obtain ⟨l13,h14,h⟩:=obind h
 have k:=oP 1 (apN23 h11 h12) k
 by_cases h15:List.length p1 = 0
 exact k57 (tH q57 0 [] [] [0] [5,6] (oD (dT l13) <| oP 0 (apN23 h14 h15) k) ((l57L42931 _ _ _ _ h).2))
 exact k57 (tH q57 0 [] [] [1] [5,6] (oD (dT l13) <| oP 0 (apS23 h14 h15) k) ((l57L42931 _ _ _ _ h).2))
 obtain ⟨l13,h14,h⟩:=obind h
 have k:=oP 1 (apS23 h11 h12) k
 by_cases h15:List.length p1 = 0
 exact k57 (tH q57 0 [] [] [1] [5,6] (oD (dT l13) <| oP 0 (apN23 h14 h15) k) ((l57L42931 _ _ _ _ h).2))
 exact k57 (tH q57 0 [] [] [2] [5,6] (oD (dT l13) <| oP 0 (apS23 h14 h15) k) ((l57L42931 _ _ _ _ h).2))
def e188L30867:Nat → Mach → Int → Int → (List Tm) → (List Int) → (List Tm) → (List Tm) → Int → Option (Bool)
 | 0,_,_,_,_,_,_,_,_ => none
 | qq + 1,M,fl,fu,p0_Context,p0_Names,p0_Types,p1,v21 =>
 if decide (v21 < (List.length p1:Int)) then
 gidx p1 v21 >>= fun x3 =>
 e109 qq M >>= fun r5 =>
 e108 qq x3 1048577 r5 >>= fun r7 =>
 if r7 then
 e188L30867 qq M fl fu p0_Context p0_Names p0_Types p1 (w64 (v21 + 1))
 else
 some false
 else
 some true
def e188 (qq:Nat) (M:Mach) (fl fu:Int) (p0_Context:List Tm) (p0_Names:List Int) (p0_Types p1:List Tm):Option (Bool) :=
 if (List.length p0_Names:Int) != (List.length p0_Types:Int) then
 some false
 else
 e188L30867 qq M fl fu p0_Context p0_Names p0_Types p1 0
def g188L30867E0 (j:Nat → Value) (M:Mach) (fl fu:Int) (p0_Context:List Tm) (p0_Names:List Int) (p0_Types p1:List Tm) (v21:Int):=sp j 32 0 [(2,.mp 3 0),(19,slv tmCells p1 .no),(20,ai (List.length p1:Int)),(21,ai v21)]
def g188L30867S0 (M:Mach) (fl fu:Int) (p0_Context:List Tm) (p0_Names:List Int) (p0_Types p1:List Tm) (v21:Int):LSt:=⟨[(0,mB M 1),(1,mR M),(2,.cells [ai fl,ai fu]),(3,.cells [.mp 0 0,.mp 2 0,slv tmCells p0_Context .no,slv intC p0_Names .no,slv tmCells p0_Types .no])],4,[],0,[]⟩
abbrev K188 (M:Mach) (fl fu:Int) (p0_Context:List Tm) (p0_Names:List Int) (p0_Types p1:List Tm) (r:Bool) (C:Cf):Prop:=C 188 [mB M 1,mR M,.cells [ai fl,ai fu]] [.agg [.mp 0 0,.mp 2 0,slv tmCells p0_Context .no,slv intC p0_Names .no,slv tmCells p0_Types .no],slv tmCells p1 .no] (ab r) [mB M 1,mR M,.cells [ai fl,ai fu]] 0
theorem q188:Qf 188 Tryz.f188:=⟨Tryz.func188,by kernel_rfl⟩
theorem k188 {M fl fu p0_Context p0_Names p0_Types p1 r} (h:K188 M fl fu p0_Context p0_Names p0_Types p1 r Ci):K188 M fl fu p0_Context p0_Names p0_Types p1 r Ct:=⟨h,⟨⟨(lz rfl),(lz rfl),⟨tv,dT _⟩,⟨tv,dI _⟩,⟨tv,dT _⟩,tv⟩,⟨tv,dT _⟩,tv⟩,(forall_cons ⟨⟨tv,dE _⟩,(lz rfl),⟨tv,dI _⟩,⟨tv,dI _⟩,tv⟩ (forall_cons ⟨⟨tv,dE _⟩,⟨tv,dC _⟩,tv⟩ (forall_cons ⟨tv,tv,tv⟩ forall_nil))),tv,(forall_cons ⟨dE _,(lz rfl),dI _,dI _,tv⟩ (forall_cons ⟨dE _,dC _,tv⟩ (forall_cons ⟨tv,tv,tv⟩ forall_nil)))⟩
theorem l188L30867:∀ qq:Nat,(∀ M fl fu p0_Context p0_Names p0_Types p1 v21 r,e188L30867 qq M fl fu p0_Context p0_Names p0_Types p1 v21 = some r → (∀ j,Dl Tryz.prog 3 (inn (inn (rgt (lft (rgt (rgt (bod Tryz.f188))))))) (g188L30867E0 j M fl fu p0_Context p0_Names p0_Types p1 v21) (g188L30867S0 M fl fu p0_Context p0_Names p0_Types p1 v21) (frameQ Tryz.prog 3 (FinQ Tryz.prog 3 Tryz.f188 (ab r) [mB M 1,mR M,.cells [ai fl,ai fu]] 0) [.blk 0,.seq (rgt (rgt (rgt (bod Tryz.f188))))]))):=by
 intro qq
 induction qq with
 | zero =>
  exact fun _ _ _ _ _ _ _ _ _ h => nn h
 | succ qq ih =>
  intro M fl fu p0_Context p0_Names p0_Types p1 v21 r h
  rw [e188L30867] at h
  rcases spl h with ⟨h2,h⟩ | ⟨h2,h⟩
  obtain ⟨x3,h4,h⟩:=obind h
  obtain ⟨r5,h6,h⟩:=obind h
  obtain ⟨r7,h8,h⟩:=obind h
  have k:=oC 4 [0,1] (c109 h6) <| oA 0 (ix23 (o:=.no) h4) <| oB 0 h2 o0
  rcases spl h with ⟨h9,h⟩ | ⟨h9,h⟩
  exact fun j => lH 2 [] [0,1,2,3] [] [2,19,20,21] (oD (dT p1) <| oD (dT p0_Types) <| oD (dI p0_Names) <| oD (dT p0_Context) <| oD (dC M.parts) <| oD (dE M.rl) <| oD (dI M.own) <| oD (dI M.args) <| oD (dE M.l) <| oK 0 [] h9 (c108 h8) k) (ih _ _ _ _ _ _ _ _ _ h)
  obtain rfl:=sj h
  exact fun j => lF 1 [0,1,2] (oD (dC M.parts) <| oD (dE M.rl) <| oD (dI M.own) <| oD (dI M.args) <| oD (dE M.l) <| oK 0 [] h9 (c108 h8) k)
  obtain rfl:=sj h
  exact fun j => lF 0 [0,1,2] (oD (dC M.parts) <| oD (dE M.rl) <| oD (dI M.own) <| oD (dI M.args) <| oD (dE M.l) <| oB 0 h2 o0)
theorem c188 {qq M fl fu p0_Context p0_Names p0_Types p1 r} (h:e188 qq M fl fu p0_Context p0_Names p0_Types p1 = some r):K188 M fl fu p0_Context p0_Names p0_Types p1 r Ct:=by
 unfold e188 at h
 rcases spl h with ⟨h1,h⟩ | ⟨h1,h⟩
 obtain rfl:=sj h
 exact k188 (tF q188 0 [0,1,2] (oD (dC M.parts) <| oD (dE M.rl) <| oD (dI M.own) <| oD (dI M.args) <| oD (dE M.l) <| oB 6 h1 o0))
 exact k188 (tH q188 1 [] [0,1,2,3] [] [2,19,20,21] (oD (dT p1) <| oD (dT p0_Types) <| oD (dI p0_Names) <| oD (dT p0_Context) <| oD (dC M.parts) <| oD (dE M.rl) <| oD (dI M.own) <| oD (dI M.args) <| oD (dE M.l) <| oB 6 h1 o0) (l188L30867 _ _ _ _ _ _ _ _ _ _ h))
def e122 (qq:Nat) (M:Mach) (fl fu:Int) (p0_Context:List Tm) (p0_Names:List Int) (p0_Types p1:List Tm):Option ((Int × List Tm × List Int × List Tm × List Ent) ⊕ (Int)) :=
 e188 qq M fl fu p0_Context p0_Names p0_Types p1 >>= fun r1 =>
 if r1 then
 e188 qq M fl fu p0_Context p0_Names p0_Types p0_Context >>= fun r4 =>
 if r4 then
 e188 qq M fl fu p0_Context p0_Names p0_Types p0_Types >>= fun r7 =>
 if r7 then
 e183 qq M >>= fun r10 =>
 some (Sum.inl (0,p0_Context,p0_Names,p0_Types,r10))
 else
 some (Sum.inr 5)
 else
 some (Sum.inr 5)
 else
 some (Sum.inr 5)
abbrev K122s0 (M:Mach) (fl fu:Int) (p0_Context:List Tm) (p0_Names:List Int) (p0_Types p1:List Tm) (r:Int × List Tm × List Int × List Tm × List Ent) (C:Cf):Prop:=C 122 [mB M 1,mR M,.cells [ai fl,ai fu]] [.agg [.mp 0 0,.mp 2 0,slv tmCells p0_Context .no,slv intC p0_Names .no,slv tmCells p0_Types .no],slv tmCells p1 .no] (.tup [.mp 3 0,ai r.1]) [mB M 1,mR M,.cells [ai fl,ai fu],.cells [.mp 0 0,.mp 2 0,slv tmCells r.2.1 .no,slv intC r.2.2.1 .no,slv tmCells r.2.2.2.1 .no,slv entL r.2.2.2.2 .no]] 0
abbrev K122s1 (M:Mach) (fl fu:Int) (p0_Context:List Tm) (p0_Names:List Int) (p0_Types p1:List Tm) (r:Int) (C:Cf):Prop:=C 122 [mB M 1,mR M,.cells [ai fl,ai fu]] [.agg [.mp 0 0,.mp 2 0,slv tmCells p0_Context .no,slv intC p0_Names .no,slv tmCells p0_Types .no],slv tmCells p1 .no] (.tup [.val (.pointer none),ai r]) [mB M 1,mR M,.cells [ai fl,ai fu]] 0
theorem q122:Qf 122 Tryz.f122:=⟨Tryz.func122,by kernel_rfl⟩
theorem k122s0 {M fl fu p0_Context p0_Names p0_Types p1 r} (h:K122s0 M fl fu p0_Context p0_Names p0_Types p1 r Ci):K122s0 M fl fu p0_Context p0_Names p0_Types p1 r Ct:=⟨h,⟨⟨(lz rfl),(lz rfl),⟨tv,dT _⟩,⟨tv,dI _⟩,⟨tv,dT _⟩,tv⟩,⟨tv,dT _⟩,tv⟩,(forall_cons ⟨⟨tv,dE _⟩,(lz rfl),⟨tv,dI _⟩,⟨tv,dI _⟩,tv⟩ (forall_cons ⟨⟨tv,dE _⟩,⟨tv,dC _⟩,tv⟩ (forall_cons ⟨tv,tv,tv⟩ forall_nil))),⟨(lz rfl),tv,tv⟩,(forall_cons ⟨dE _,(lz rfl),dI _,dI _,tv⟩ (forall_cons ⟨dE _,dC _,tv⟩ (forall_cons ⟨tv,tv,tv⟩ (forall_cons ⟨(lz rfl),(lz rfl),dT _,dI _,dT _,dE _,tv⟩ forall_nil))))⟩
theorem k122s1 {M fl fu p0_Context p0_Names p0_Types p1 r} (h:K122s1 M fl fu p0_Context p0_Names p0_Types p1 r Ci):K122s1 M fl fu p0_Context p0_Names p0_Types p1 r Ct:=⟨h,⟨⟨(lz rfl),(lz rfl),⟨tv,dT _⟩,⟨tv,dI _⟩,⟨tv,dT _⟩,tv⟩,⟨tv,dT _⟩,tv⟩,(forall_cons ⟨⟨tv,dE _⟩,(lz rfl),⟨tv,dI _⟩,⟨tv,dI _⟩,tv⟩ (forall_cons ⟨⟨tv,dE _⟩,⟨tv,dC _⟩,tv⟩ (forall_cons ⟨tv,tv,tv⟩ forall_nil))),⟨tv,tv,tv⟩,(forall_cons ⟨dE _,(lz rfl),dI _,dI _,tv⟩ (forall_cons ⟨dE _,dC _,tv⟩ (forall_cons ⟨tv,tv,tv⟩ forall_nil)))⟩
theorem c122 {qq M fl fu p0_Context p0_Names p0_Types p1 r} (h:e122 qq M fl fu p0_Context p0_Names p0_Types p1 = some r):(match (generalizing:=false) r with | Sum.inl x => K122s0 M fl fu p0_Context p0_Names p0_Types p1 x Ct | Sum.inr x => K122s1 M fl fu p0_Context p0_Names p0_Types p1 x Ct):=by
 unfold e122 at h
 obtain ⟨r1,h2,h⟩:=obind h
 rcases spl h with ⟨h3,h⟩ | ⟨h3,h⟩
 obtain ⟨r4,h5,h⟩:=obind h
 have k:=oK 1 [0,1,2] h3 (c188 h2) o0
 rcases spl h with ⟨h6,h⟩ | ⟨h6,h⟩
 obtain ⟨r7,h8,h⟩:=obind h
 have k:=oK 3 [0,1,2] h6 (c188 h5) k
 rcases spl h with ⟨h9,h⟩ | ⟨h9,h⟩
 obtain ⟨r10,h11,h⟩:=obind h
 obtain rfl:=sj h
 exact k122s0 (tF q122 0 [0,1,2,4] (oD (dE r10) <| oD (dT p0_Types) <| oD (dI p0_Names) <| oD (dT p0_Context) <| oD (dC M.parts) <| oD (dE M.rl) <| oD (dI M.own) <| oD (dI M.args) <| oD (dE M.l) <| oC 3 [0,1] (c183 h11) <| oK 3 [0,1,2] h9 (c188 h8) k))
 obtain rfl:=sj h
 exact k122s1 (tF q122 1 [0,1,2] (oD (dC M.parts) <| oD (dE M.rl) <| oD (dI M.own) <| oD (dI M.args) <| oD (dE M.l) <| oK 3 [0,1,2] h9 (c188 h8) k))
 obtain rfl:=sj h
 exact k122s1 (tF q122 1 [0,1,2] (oD (dC M.parts) <| oD (dE M.rl) <| oD (dI M.own) <| oD (dI M.args) <| oD (dE M.l) <| oK 3 [0,1,2] h6 (c188 h5) k))
 obtain rfl:=sj h
 exact k122s1 (tF q122 1 [0,1,2] (oD (dC M.parts) <| oD (dE M.rl) <| oD (dI M.own) <| oD (dI M.args) <| oD (dE M.l) <| oK 1 [0,1,2] h3 (c188 h2) o0))
def e59 (qq:Nat) (M:Mach) (fl fu:Int) (p0_Context:List Tm) (p0_Names:List Int) (p0_Types:List Tm) (p1:Tm):Option (Tm × Int × Int × Int) :=
 e122 qq M fl fu p0_Context p0_Names p0_Types [p1] >>= fun r1 =>
 match r1 with
 | Sum.inl y3 =>
  if y3.1 != 0 then
  some ((Tm.mk 0 0 []),y3.1,fl,fu)
  else
  e123 qq M fl fu y3.2.1 y3.2.2.1 y3.2.2.2.1 y3.2.2.2.2 p1 >>= fun r5 =>
  if r5.2.1 != 0 then
  some ((Tm.mk 0 0 []),r5.2.1,r5.2.2.1,r5.2.2.2)
  else
  e84 qq r5.1 >>= fun r8 =>
  some (r8,0,r5.2.2.1,r5.2.2.2)
 | Sum.inr y10 =>
  if y10 != 0 then
  some ((Tm.mk 0 0 []),y10,fl,fu)
  else
  none
abbrev K59 (M:Mach) (fl fu:Int) (p0_Context:List Tm) (p0_Names:List Int) (p0_Types:List Tm) (p1:Tm) (r:Tm × Int × Int × Int) (C:Cf):Prop:=C 59 [mB M 1,mR M,.cells [ai fl,ai fu]] [.agg [.mp 0 0,.mp 2 0,slv tmCells p0_Context .no,slv intC p0_Names .no,slv tmCells p0_Types .no],tmA p1] (.tup [tmA r.1,ai r.2.1]) [mB M 1,mR M,.cells [ai r.2.2.1,ai r.2.2.2]] 0
theorem q59:Qf 59 Tryz.f59:=⟨Tryz.func59,by kernel_rfl⟩
theorem k59 {M fl fu p0_Context p0_Names p0_Types p1 r} (h:K59 M fl fu p0_Context p0_Names p0_Types p1 r Ci):K59 M fl fu p0_Context p0_Names p0_Types p1 r Ct:=⟨h,⟨⟨(lz rfl),(lz rfl),⟨tv,dT _⟩,⟨tv,dI _⟩,⟨tv,dT _⟩,tv⟩,⟨tv,tv,⟨tv,dT _⟩,tv⟩,tv⟩,(forall_cons ⟨⟨tv,dE _⟩,(lz rfl),⟨tv,dI _⟩,⟨tv,dI _⟩,tv⟩ (forall_cons ⟨⟨tv,dE _⟩,⟨tv,dC _⟩,tv⟩ (forall_cons ⟨tv,tv,tv⟩ forall_nil))),⟨⟨tv,tv,dT _,tv⟩,tv,tv⟩,(forall_cons ⟨dE _,(lz rfl),dI _,dI _,tv⟩ (forall_cons ⟨dE _,dC _,tv⟩ (forall_cons ⟨tv,tv,tv⟩ forall_nil)))⟩
theorem c59 {qq M fl fu p0_Context p0_Names p0_Types p1 r} (h:e59 qq M fl fu p0_Context p0_Names p0_Types p1 = some r):K59 M fl fu p0_Context p0_Names p0_Types p1 r Ct:=by
 unfold e59 at h
 obtain ⟨r1,h2,h⟩:=obind h
 have k:=oS 2 (obLitR tm_eq [p1]) o0
 rcases r1 with y3 | y10
 dsimp only at h
 have k:=oC 0 [0,1,2] (c122 h2) k
 rcases spl h with ⟨h4,h⟩ | ⟨h4,h⟩
 obtain rfl:=sj h
 exact k59 (tF q59 1 [0,1,2] (oD (dT ([]:List Tm)) <| oD (dC M.parts) <| oD (dE M.rl) <| oD (dI M.own) <| oD (dI M.args) <| oD (dE M.l) <| oB 2 h4 k))
 obtain ⟨r5,h6,h⟩:=obind h
 have k:=oC 1 [6,0,1,2] (c123 h6) <| oB 2 h4 k
 rcases spl h with ⟨h7,h⟩ | ⟨h7,h⟩
 obtain rfl:=sj h
 exact k59 (tF q59 1 [0,1,2] (oD (dT ([]:List Tm)) <| oD (dC M.parts) <| oD (dE M.rl) <| oD (dI M.own) <| oD (dI M.args) <| oD (dE M.l) <| oB 3 h7 k))
 obtain ⟨r8,h9,h⟩:=obind h
 obtain rfl:=sj h
 exact k59 (tF q59 1 [0,1,2] (oD (dT r8.sub) <| oD (dC M.parts) <| oD (dE M.rl) <| oD (dI M.own) <| oD (dI M.args) <| oD (dE M.l) <| oC 1 [] (c84 h9) <| oB 3 h7 k))
 dsimp only at h
 have k:=oC 0 [0,1,2] (c122 h2) k
 obtain ⟨h11,h⟩:=spT h
 obtain rfl:=sj h
 exact k59 (tF q59 1 [0,1,2] (oD (dT ([]:List Tm)) <| oD (dC M.parts) <| oD (dE M.rl) <| oD (dI M.own) <| oD (dI M.args) <| oD (dE M.l) <| oB 2 h11 k))
def e183va47633 (qq:Nat)  : Option (List Ent) :=
 some []
abbrev K183va47633 (r:List Ent) (C:Cf):Prop:=C 183 [] [.val (.pointer none)] (.sl (flat entL r) (List.length r) .no) [] 0
theorem q183va47633:Qf 183 Tryz.f183:=⟨Tryz.func183,by kernel_rfl⟩
theorem k183va47633 {r} (h:K183va47633 r Ci):K183va47633 r Ct:=⟨h,⟨tv,tv⟩,forall_nil,dE _,forall_nil⟩
theorem c183va47633 {qq r} (h:e183va47633 qq  = some r):K183va47633 r Ct:=by
 unfold e183va47633 at h
 obtain rfl:=sj h
 exact k183va47633 (tF q183va47633 1 [] (oD (dE ([]:List Ent)) o0))
def e188va35143 (qq:Nat) (q0 q1:Int) (q2:List Tm) (q3:List Int) (q4 p1:List Tm):Option (Bool) :=
 some false
abbrev K188va35143 (q0 q1:Int) (q2:List Tm) (q3:List Int) (q4 p1:List Tm) (r:Bool) (C:Cf):Prop:=C 188 [.cells [ai q0,ai q1]] [.agg [.val (.pointer none),.mp 0 0,slv tmCells q2 .no,slv intC q3 .no,slv tmCells q4 .no],slv tmCells p1 .no] (ab r) [.cells [ai q0,ai q1]] 0
theorem q188va35143:Qf 188 Tryz.f188:=⟨Tryz.func188,by kernel_rfl⟩
theorem k188va35143 {q0 q1 q2 q3 q4 p1 r} (h:K188va35143 q0 q1 q2 q3 q4 p1 r Ci):K188va35143 q0 q1 q2 q3 q4 p1 r Ct:=⟨h,⟨⟨tv,(lz rfl),⟨tv,dT _⟩,⟨tv,dI _⟩,⟨tv,dT _⟩,tv⟩,⟨tv,dT _⟩,tv⟩,(forall_cons ⟨tv,tv,tv⟩ forall_nil),tv,(forall_cons ⟨tv,tv,tv⟩ forall_nil)⟩
theorem c188va35143 {qq q0 q1 q2 q3 q4 p1 r} (h:e188va35143 qq q0 q1 q2 q3 q4 p1 = some r):K188va35143 q0 q1 q2 q3 q4 p1 r Ct:=by
 unfold e188va35143 at h
 obtain rfl:=sj h
 exact k188va35143 (tF q188va35143 2 [0] (o0))
def e122va35143 (qq:Nat) (q0 q1:Int) (q2:List Tm) (q3:List Int) (q4 p1:List Tm):Option ((Int × List Tm × List Int × List Tm × List Ent) ⊕ (Int)) :=
 e188va35143 qq q0 q1 q2 q3 q4 p1 >>= fun r1 =>
 if r1 then
 e188va35143 qq q0 q1 q2 q3 q4 q2 >>= fun r4 =>
 if r4 then
 e188va35143 qq q0 q1 q2 q3 q4 q4 >>= fun r7 =>
 if r7 then
 e183va47633 qq >>= fun r10 =>
 some (Sum.inl (0,q2,q3,q4,r10))
 else
 some (Sum.inr 5)
 else
 some (Sum.inr 5)
 else
 some (Sum.inr 5)
abbrev K122va35143s0 (q0 q1:Int) (q2:List Tm) (q3:List Int) (q4 p1:List Tm) (r:Int × List Tm × List Int × List Tm × List Ent) (C:Cf):Prop:=C 122 [.cells [ai q0,ai q1]] [.agg [.val (.pointer none),.mp 0 0,slv tmCells q2 .no,slv intC q3 .no,slv tmCells q4 .no],slv tmCells p1 .no] (.tup [.mp 1 0,ai r.1]) [.cells [ai q0,ai q1],.cells [.val (.pointer none),.mp 0 0,slv tmCells r.2.1 .no,slv intC r.2.2.1 .no,slv tmCells r.2.2.2.1 .no,slv entL r.2.2.2.2 .no]] 0
abbrev K122va35143s1 (q0 q1:Int) (q2:List Tm) (q3:List Int) (q4 p1:List Tm) (r:Int) (C:Cf):Prop:=C 122 [.cells [ai q0,ai q1]] [.agg [.val (.pointer none),.mp 0 0,slv tmCells q2 .no,slv intC q3 .no,slv tmCells q4 .no],slv tmCells p1 .no] (.tup [.val (.pointer none),ai r]) [.cells [ai q0,ai q1]] 0
theorem q122va35143:Qf 122 Tryz.f122:=⟨Tryz.func122,by kernel_rfl⟩
theorem k122va35143s0 {q0 q1 q2 q3 q4 p1 r} (h:K122va35143s0 q0 q1 q2 q3 q4 p1 r Ci):K122va35143s0 q0 q1 q2 q3 q4 p1 r Ct:=⟨h,⟨⟨tv,(lz rfl),⟨tv,dT _⟩,⟨tv,dI _⟩,⟨tv,dT _⟩,tv⟩,⟨tv,dT _⟩,tv⟩,(forall_cons ⟨tv,tv,tv⟩ forall_nil),⟨(lz rfl),tv,tv⟩,(forall_cons ⟨tv,tv,tv⟩ (forall_cons ⟨tv,(lz rfl),dT _,dI _,dT _,dE _,tv⟩ forall_nil))⟩
theorem k122va35143s1 {q0 q1 q2 q3 q4 p1 r} (h:K122va35143s1 q0 q1 q2 q3 q4 p1 r Ci):K122va35143s1 q0 q1 q2 q3 q4 p1 r Ct:=⟨h,⟨⟨tv,(lz rfl),⟨tv,dT _⟩,⟨tv,dI _⟩,⟨tv,dT _⟩,tv⟩,⟨tv,dT _⟩,tv⟩,(forall_cons ⟨tv,tv,tv⟩ forall_nil),⟨tv,tv,tv⟩,(forall_cons ⟨tv,tv,tv⟩ forall_nil)⟩
theorem c122va35143 {qq q0 q1 q2 q3 q4 p1 r} (h:e122va35143 qq q0 q1 q2 q3 q4 p1 = some r):(match (generalizing:=false) r with | Sum.inl x => K122va35143s0 q0 q1 q2 q3 q4 p1 x Ct | Sum.inr x => K122va35143s1 q0 q1 q2 q3 q4 p1 x Ct):=by
 unfold e122va35143 at h
 obtain ⟨r1,h2,h⟩:=obind h
 rcases spl h with ⟨h3,h⟩ | ⟨h3,h⟩
 obtain ⟨r4,h5,h⟩:=obind h
 have k:=oK 1 [0] h3 (c188va35143 h2) o0
 rcases spl h with ⟨h6,h⟩ | ⟨h6,h⟩
 obtain ⟨r7,h8,h⟩:=obind h
 have k:=oK 3 [0] h6 (c188va35143 h5) k
 rcases spl h with ⟨h9,h⟩ | ⟨h9,h⟩
 obtain ⟨r10,h11,h⟩:=obind h
 obtain rfl:=sj h
 exact k122va35143s0 (tF q122va35143 0 [0,2] (oD (dE r10) <| oD (dT q4) <| oD (dI q3) <| oD (dT q2) <| oC 3 [] (c183va47633 h11) <| oK 3 [0] h9 (c188va35143 h8) k))
 obtain rfl:=sj h
 exact k122va35143s1 (tF q122va35143 1 [0] (oK 3 [0] h9 (c188va35143 h8) k))
 obtain rfl:=sj h
 exact k122va35143s1 (tF q122va35143 1 [0] (oK 3 [0] h6 (c188va35143 h5) k))
 obtain rfl:=sj h
 exact k122va35143s1 (tF q122va35143 1 [0] (oK 1 [0] h3 (c188va35143 h2) o0))
def e123va36126 (qq:Nat) (q0 q1:Int) (q2:List Tm) (q3:List Int) (q4:List Tm) (q5:List Ent) (p1:Tm):Option (Tm × Int × Int × Int) :=
 none
abbrev K123va36126 (q0 q1:Int) (q2:List Tm) (q3:List Int) (q4:List Tm) (q5:List Ent) (p1:Tm) (r:Tm × Int × Int × Int) (C:Cf):Prop:=C 123 [.cells [.val (.pointer none),.mp 1 0,slv tmCells q2 .no,slv intC q3 .no,slv tmCells q4 .no,slv entL q5 .no],.cells [ai q0,ai q1]] [.mp 0 0,tmA p1] (.tup [tmA r.1,ai r.2.1]) [.cells [.val (.pointer none),.mp 1 0,slv tmCells q2 .no,slv intC q3 .no,slv tmCells q4 .no,slv entL q5 .no],.cells [ai r.2.2.1,ai r.2.2.2]] 0
theorem c123va36126 {qq q0 q1 q2 q3 q4 q5 p1 r} (h:e123va36126 qq q0 q1 q2 q3 q4 q5 p1 = some r):K123va36126 q0 q1 q2 q3 q4 q5 p1 r Ct:=by
 unfold e123va36126 at h
 cases h
def e59va19146 (qq:Nat) (q0 q1:Int) (q2:List Tm) (q3:List Int) (q4:List Tm) (p1:Tm):Option (Tm × Int × Int × Int) :=
 e122va35143 qq q0 q1 q2 q3 q4 [p1] >>= fun r1 =>
 match r1 with
 | Sum.inl y3 =>
  if y3.1 != 0 then
  some ((Tm.mk 0 0 []),y3.1,q0,q1)
  else
  e123va36126 qq q0 q1 y3.2.1 y3.2.2.1 y3.2.2.2.1 y3.2.2.2.2 p1 >>= fun r5 =>
  if r5.2.1 != 0 then
  some ((Tm.mk 0 0 []),r5.2.1,r5.2.2.1,r5.2.2.2)
  else
  e84 qq r5.1 >>= fun r8 =>
  some (r8,0,r5.2.2.1,r5.2.2.2)
 | Sum.inr y10 =>
  if y10 != 0 then
  some ((Tm.mk 0 0 []),y10,q0,q1)
  else
  none
abbrev K59va19146 (q0 q1:Int) (q2:List Tm) (q3:List Int) (q4:List Tm) (p1:Tm) (r:Tm × Int × Int × Int) (C:Cf):Prop:=C 59 [.cells [ai q0,ai q1]] [.agg [.val (.pointer none),.mp 0 0,slv tmCells q2 .no,slv intC q3 .no,slv tmCells q4 .no],tmA p1] (.tup [tmA r.1,ai r.2.1]) [.cells [ai r.2.2.1,ai r.2.2.2]] 0
theorem q59va19146:Qf 59 Tryz.f59:=⟨Tryz.func59,by kernel_rfl⟩
theorem k59va19146 {q0 q1 q2 q3 q4 p1 r} (h:K59va19146 q0 q1 q2 q3 q4 p1 r Ci):K59va19146 q0 q1 q2 q3 q4 p1 r Ct:=⟨h,⟨⟨tv,(lz rfl),⟨tv,dT _⟩,⟨tv,dI _⟩,⟨tv,dT _⟩,tv⟩,⟨tv,tv,⟨tv,dT _⟩,tv⟩,tv⟩,(forall_cons ⟨tv,tv,tv⟩ forall_nil),⟨⟨tv,tv,dT _,tv⟩,tv,tv⟩,(forall_cons ⟨tv,tv,tv⟩ forall_nil)⟩
theorem c59va19146 {qq q0 q1 q2 q3 q4 p1 r} (h:e59va19146 qq q0 q1 q2 q3 q4 p1 = some r):K59va19146 q0 q1 q2 q3 q4 p1 r Ct:=by
 unfold e59va19146 at h
 obtain ⟨r1,h2,h⟩:=obind h
 have k:=oS 2 (obLitR tm_eq [p1]) o0
 rcases r1 with y3 | y10
 dsimp only at h
 have k:=oC 0 [0] (c122va35143 h2) k
 rcases spl h with ⟨h4,h⟩ | ⟨h4,h⟩
 obtain rfl:=sj h
 exact k59va19146 (tF q59va19146 1 [0] (oD (dT ([]:List Tm)) <| oB 2 h4 k))
 obtain ⟨r5,h6,h⟩:=obind h
 have k:=oC 1 [4,0] (c123va36126 h6) <| oB 2 h4 k
 rcases spl h with ⟨h7,h⟩ | ⟨h7,h⟩
 obtain rfl:=sj h
 exact k59va19146 (tF q59va19146 1 [0] (oD (dT ([]:List Tm)) <| oB 3 h7 k))
 obtain ⟨r8,h9,h⟩:=obind h
 obtain rfl:=sj h
 exact k59va19146 (tF q59va19146 1 [0] (oD (dT r8.sub) <| oC 1 [] (c84 h9) <| oB 3 h7 k))
 dsimp only at h
 have k:=oC 0 [0] (c122va35143 h2) k
 obtain ⟨h11,h⟩:=spT h
 obtain rfl:=sj h
 exact k59va19146 (tF q59va19146 1 [0] (oD (dT ([]:List Tm)) <| oB 2 h11 k))
def e59va53787 (qq:Nat) (q0:List Tm) (q1:List Int) (q2:List Tm) (p1:Tm):Option (Tm × Int) :=
 none
abbrev K59va53787 (q0:List Tm) (q1:List Int) (q2:List Tm) (p1:Tm) (r:Tm × Int) (C:Cf):Prop:=C 59 [] [.agg [.val (.pointer none),.val (.pointer none),slv tmCells q0 .no,slv intC q1 .no,slv tmCells q2 .no],tmA p1] (.tup [tmA r.1,ai r.2]) [] 0
theorem c59va53787 {qq q0 q1 q2 p1 r} (h:e59va53787 qq q0 q1 q2 p1 = some r):K59va53787 q0 q1 q2 p1 r Ct:=by
 unfold e59va53787 at h
 cases h
def e59va54170 (qq:Nat) (q0 q1:List Ent) (q2:List Con') (q3 q4:List Int) (q5:List Tm) (q6:List Int) (q7:List Tm) (p1:Tm):Option (Tm × Int) :=
 none
abbrev K59va54170 (q0 q1:List Ent) (q2:List Con') (q3 q4:List Int) (q5:List Tm) (q6:List Int) (q7:List Tm) (p1:Tm) (r:Tm × Int) (C:Cf):Prop:=C 59 [.cells [slv entL q0 .no,.mp 1 0,slv intC q3 .no,slv intC q4 .no],.cells [slv entL q1 .no,slv conL q2 .no]] [.agg [.mp 0 0,.val (.pointer none),slv tmCells q5 .no,slv intC q6 .no,slv tmCells q7 .no],tmA p1] (.tup [tmA r.1,ai r.2]) [.cells [slv entL q0 .no,.mp 1 0,slv intC q3 .no,slv intC q4 .no],.cells [slv entL q1 .no,slv conL q2 .no]] 0
theorem c59va54170 {qq q0 q1 q2 q3 q4 q5 q6 q7 p1 r} (h:e59va54170 qq q0 q1 q2 q3 q4 q5 q6 q7 p1 = some r):K59va54170 q0 q1 q2 q3 q4 q5 q6 q7 p1 r Ct:=by
 unfold e59va54170 at h
 cases h
def e121 (qq:Nat) (p0:List Ent) (p1:Tm) (p2:Int):Option (Tm × Int) :=
 e36 qq p0 >>= fun r1 =>
 match r1 with
 | Sum.inl y15 =>
  if y15 != 0 then
  some ((Tm.mk 0 0 []),y15)
  else
  e47 qq p2 >>= fun r17 =>
  match r17 with
  | Sum.inl y23 =>
   if y23 != 0 then
   some ((Tm.mk 0 0 []),y23)
   else
   e59va53787 qq [] [] [] p1 >>= fun r25 =>
   some (r25.1,r25.2)
  | Sum.inr y19 =>
   if y19.1 != 0 then
   some ((Tm.mk 0 0 []),y19.1)
   else
   e59va19146 qq y19.2.1 y19.2.2 [] [] [] p1 >>= fun r21 =>
   some (r21.1,r21.2.1)
 | Sum.inr y3 =>
  if y3.1 != 0 then
  some ((Tm.mk 0 0 []),y3.1)
  else
  e47 qq p2 >>= fun r5 =>
  match r5 with
  | Sum.inl y11 =>
   if y11 != 0 then
   some ((Tm.mk 0 0 []),y11)
   else
   e59va54170 qq y3.2.1 y3.2.2.2.2.1 y3.2.2.2.2.2 y3.2.2.1 y3.2.2.2.1 [] [] [] p1 >>= fun r13 =>
   some (r13.1,r13.2)
  | Sum.inr y7 =>
   if y7.1 != 0 then
   some ((Tm.mk 0 0 []),y7.1)
   else
   e59 qq (Mach.mk y3.2.1 y3.2.2.2.2.1 y3.2.2.2.2.2 y3.2.2.1 y3.2.2.2.1) y7.2.1 y7.2.2 [] [] [] p1 >>= fun r9 =>
   some (r9.1,r9.2.1)
abbrev K121 (p0:List Ent) (p1:Tm) (p2:Int) (r:Tm × Int) (C:Cf):Prop:=C 121 [] [slv entL p0 .no,tmA p1,ai p2] (.tup [tmA r.1,ai r.2]) [] 0
theorem q121:Qf 121 Tryz.f121:=⟨Tryz.func121,by kernel_rfl⟩
theorem k121 {p0 p1 p2 r} (h:K121 p0 p1 p2 r Ci):K121 p0 p1 p2 r Ct:=⟨h,⟨⟨tv,dE _⟩,⟨tv,tv,⟨tv,dT _⟩,tv⟩,tv,tv⟩,forall_nil,⟨⟨tv,tv,dT _,tv⟩,tv,tv⟩,forall_nil⟩
theorem c121 {qq p0 p1 p2 r} (h:e121 qq p0 p1 p2 = some r):K121 p0 p1 p2 r Ct:=by
 unfold e121 at h
 obtain ⟨r1,h2,h⟩:=obind h
 rcases r1 with y15 | y3
 dsimp only at h
 have k:=oC 0 [] (c36 h2) o0
 rcases spl h with ⟨h16,h⟩ | ⟨h16,h⟩
 obtain rfl:=sj h
 exact k121 (tF q121 1 [] (oD (dT ([]:List Tm)) <| oB 2 h16 k))
 obtain ⟨r17,h18,h⟩:=obind h
 have k:=oB 2 h16 k
 rcases r17 with y23 | y19
 dsimp only at h
 have k:=oC 0 [] (c47 h18) k
 rcases spl h with ⟨h24,h⟩ | ⟨h24,h⟩
 obtain rfl:=sj h
 exact k121 (tF q121 1 [] (oD (dT ([]:List Tm)) <| oB 2 h24 k))
 obtain ⟨r25,h26,h⟩:=obind h
 obtain rfl:=sj h
 exact k121 (tF q121 3 [] (oD (dT r25.1.sub) <| oC 1 [] (c59va53787 h26) <| oB 2 h24 k))
 dsimp only at h
 have k:=oC 0 [] (c47 h18) k
 rcases spl h with ⟨h20,h⟩ | ⟨h20,h⟩
 obtain rfl:=sj h
 exact k121 (tF q121 1 [] (oD (dT ([]:List Tm)) <| oB 2 h20 k))
 obtain ⟨r21,h22,h⟩:=obind h
 obtain rfl:=sj h
 exact k121 (tF q121 3 [] (oD (dT r21.1.sub) <| oC 1 [2] (c59va19146 h22) <| oB 2 h20 k))
 dsimp only at h
 have k:=oC 0 [] (c36 h2) o0
 rcases spl h with ⟨h4,h⟩ | ⟨h4,h⟩
 obtain rfl:=sj h
 exact k121 (tF q121 1 [] (oD (dT ([]:List Tm)) <| oB 2 h4 k))
 obtain ⟨r5,h6,h⟩:=obind h
 have k:=oB 2 h4 k
 rcases r5 with y11 | y7
 dsimp only at h
 have k:=oC 0 [] (c47 h6) k
 rcases spl h with ⟨h12,h⟩ | ⟨h12,h⟩
 obtain rfl:=sj h
 exact k121 (tF q121 1 [] (oD (dT ([]:List Tm)) <| oB 2 h12 k))
 obtain ⟨r13,h14,h⟩:=obind h
 obtain rfl:=sj h
 exact k121 (tF q121 3 [] (oD (dT r13.1.sub) <| oC 1 [2,3] (c59va54170 h14) <| oB 2 h12 k))
 dsimp only at h
 have k:=oC 0 [] (c47 h6) k
 rcases spl h with ⟨h8,h⟩ | ⟨h8,h⟩
 obtain rfl:=sj h
 exact k121 (tF q121 1 [] (oD (dT ([]:List Tm)) <| oB 2 h8 k))
 obtain ⟨r9,h10,h⟩:=obind h
 obtain rfl:=sj h
 exact k121 (tF q121 3 [] (oD (dT r9.1.sub) <| oC 1 [2,3,4] (c59 h10) <| oB 2 h8 k))
def e58 (qq:Nat)  : Option (Bool) :=
 e121 qq [] (Tm.mk 2 2 []) 5 >>= fun r1 =>
 if r1.2 == 0 then
 if r1.1.k == 2 then
 some (r1.1.n == 3)
 else
 some false
 else
 some false
abbrev K58 (r:Bool) (C:Cf):Prop:=C 58 [] [] (ab r) [] 0
theorem q58:Qf 58 Tryz.f58:=⟨Tryz.func58,by kernel_rfl⟩
theorem k58 {r} (h:K58 r Ci):K58 r Ct:=⟨h,tv,forall_nil,tv,forall_nil⟩
theorem c58 {qq r} (h:e58 qq  = some r):K58 r Ct:=by
 unfold e58 at h
 obtain ⟨r1,h2,h⟩:=obind h
 have k:=oC 0 [] (c121 h2) o0
 rcases spl h with ⟨h3,h⟩ | ⟨h3,h⟩
 have k:=oB 3 h3 k
 rcases spl h with ⟨h4,h⟩ | ⟨h4,h⟩
 obtain rfl:=sj h
 exact k58 (tF q58 2 [] (oB 1 h4 k))
 obtain rfl:=sj h
 exact k58 (tF q58 0 [] (oB 1 h4 k))
 obtain rfl:=sj h
 exact k58 (tF q58 0 [] (oB 3 h3 k))
def e60 (qq:Nat) (p0:L17Case):Option ((List Tm × List Int × List Tm × List Ent × List Int × List Int × Int × Int × List Ent × List Con') ⊕ ((List Tm × List Int × List Tm × List Ent × List Int × List Int × List Ent × List Con') ⊕ ((List Tm × List Int × List Tm × Int × Int) ⊕ (List Tm × List Int × List Tm)))) :=
 e36 qq p0.l_ >>= fun r1 =>
 match r1 with
 | Sum.inl y8 =>
  e47 qq p0.fuel_ >>= fun r9 =>
  match r9 with
  | Sum.inl y12 =>
   some (Sum.inr (Sum.inr (Sum.inr (p0.context_,p0.names_,p0.types_))))
  | Sum.inr y11 =>
   some (Sum.inr (Sum.inr (Sum.inl (p0.context_,p0.names_,p0.types_,y11.2.1,y11.2.2))))
 | Sum.inr y3 =>
  e47 qq p0.fuel_ >>= fun r4 =>
  match r4 with
  | Sum.inl y7 =>
   some (Sum.inr (Sum.inl (p0.context_,p0.names_,p0.types_,y3.2.1,y3.2.2.1,y3.2.2.2.1,y3.2.2.2.2.1,y3.2.2.2.2.2)))
  | Sum.inr y6 =>
   some (Sum.inl (p0.context_,p0.names_,p0.types_,y3.2.1,y3.2.2.1,y3.2.2.2.1,y6.2.1,y6.2.2,y3.2.2.2.2.1,y3.2.2.2.2.2))
abbrev K60s0 (p0:L17Case) (r:List Tm × List Int × List Tm × List Ent × List Int × List Int × Int × Int × List Ent × List Con') (C:Cf):Prop:=C 60 [] [l17CaseA p0] (.agg [.mp 0 0,.mp 1 0,slv tmCells r.1 .no,slv intC r.2.1 .no,slv tmCells r.2.2.1 .no]) [.cells [slv entL r.2.2.2.1 .no,.mp 2 0,slv intC r.2.2.2.2.1 .no,slv intC r.2.2.2.2.2.1 .no],.cells [ai r.2.2.2.2.2.2.1,ai r.2.2.2.2.2.2.2.1],.cells [slv entL r.2.2.2.2.2.2.2.2.1 .no,slv conL r.2.2.2.2.2.2.2.2.2 .no]] 0
abbrev K60s1 (p0:L17Case) (r:List Tm × List Int × List Tm × List Ent × List Int × List Int × List Ent × List Con') (C:Cf):Prop:=C 60 [] [l17CaseA p0] (.agg [.mp 0 0,.val (.pointer none),slv tmCells r.1 .no,slv intC r.2.1 .no,slv tmCells r.2.2.1 .no]) [.cells [slv entL r.2.2.2.1 .no,.mp 1 0,slv intC r.2.2.2.2.1 .no,slv intC r.2.2.2.2.2.1 .no],.cells [slv entL r.2.2.2.2.2.2.1 .no,slv conL r.2.2.2.2.2.2.2 .no]] 0
abbrev K60s2 (p0:L17Case) (r:List Tm × List Int × List Tm × Int × Int) (C:Cf):Prop:=C 60 [] [l17CaseA p0] (.agg [.val (.pointer none),.mp 0 0,slv tmCells r.1 .no,slv intC r.2.1 .no,slv tmCells r.2.2.1 .no]) [.cells [ai r.2.2.2.1,ai r.2.2.2.2]] 0
abbrev K60s3 (p0:L17Case) (r:List Tm × List Int × List Tm) (C:Cf):Prop:=C 60 [] [l17CaseA p0] (.agg [.val (.pointer none),.val (.pointer none),slv tmCells r.1 .no,slv intC r.2.1 .no,slv tmCells r.2.2 .no]) [] 0
theorem q60:Qf 60 Tryz.f60:=⟨Tryz.func60,by kernel_rfl⟩
theorem k60s0 {p0 r} (h:K60s0 p0 r Ci):K60s0 p0 r Ct:=⟨h,⟨⟨⟨tv,dE _⟩,⟨tv,dT _⟩,⟨tv,dI _⟩,⟨tv,dT _⟩,tv,tv⟩,tv⟩,forall_nil,⟨(lz rfl),(lz rfl),dT _,dI _,dT _,tv⟩,(forall_cons ⟨dE _,(lz rfl),dI _,dI _,tv⟩ (forall_cons ⟨tv,tv,tv⟩ (forall_cons ⟨dE _,dC _,tv⟩ forall_nil)))⟩
theorem k60s1 {p0 r} (h:K60s1 p0 r Ci):K60s1 p0 r Ct:=⟨h,⟨⟨⟨tv,dE _⟩,⟨tv,dT _⟩,⟨tv,dI _⟩,⟨tv,dT _⟩,tv,tv⟩,tv⟩,forall_nil,⟨(lz rfl),tv,dT _,dI _,dT _,tv⟩,(forall_cons ⟨dE _,(lz rfl),dI _,dI _,tv⟩ (forall_cons ⟨dE _,dC _,tv⟩ forall_nil))⟩
theorem k60s2 {p0 r} (h:K60s2 p0 r Ci):K60s2 p0 r Ct:=⟨h,⟨⟨⟨tv,dE _⟩,⟨tv,dT _⟩,⟨tv,dI _⟩,⟨tv,dT _⟩,tv,tv⟩,tv⟩,forall_nil,⟨tv,(lz rfl),dT _,dI _,dT _,tv⟩,(forall_cons ⟨tv,tv,tv⟩ forall_nil)⟩
theorem k60s3 {p0 r} (h:K60s3 p0 r Ci):K60s3 p0 r Ct:=⟨h,⟨⟨⟨tv,dE _⟩,⟨tv,dT _⟩,⟨tv,dI _⟩,⟨tv,dT _⟩,tv,tv⟩,tv⟩,forall_nil,⟨tv,tv,dT _,dI _,dT _,tv⟩,forall_nil⟩
theorem c60 {qq p0 r} (h:e60 qq p0 = some r):(match (generalizing:=false) r with | Sum.inl x => K60s0 p0 x Ct | Sum.inr (Sum.inl x) => K60s1 p0 x Ct | Sum.inr (Sum.inr (Sum.inl x)) => K60s2 p0 x Ct | Sum.inr (Sum.inr (Sum.inr x)) => K60s3 p0 x Ct):=by
 unfold e60 at h
 obtain ⟨r1,h2,h⟩:=obind h
 rcases r1 with y8 | y3
 dsimp only at h
 obtain ⟨r9,h10,h⟩:=obind h
 have k:=oC 1 [] (c36 h2) o0
 rcases r9 with y12 | y11
 dsimp only at h
 obtain rfl:=sj h
 exact k60s3 (tF q60 6 [] (oD (dT p0.types_) <| oD (dI p0.names_) <| oD (dT p0.context_) <| oC 3 [] (c47 h10) k))
 dsimp only at h
 obtain rfl:=sj h
 exact k60s2 (tF q60 6 [2] (oD (dT p0.types_) <| oD (dI p0.names_) <| oD (dT p0.context_) <| oC 3 [] (c47 h10) k))
 dsimp only at h
 obtain ⟨r4,h5,h⟩:=obind h
 have k:=oC 1 [] (c36 h2) o0
 rcases r4 with y7 | y6
 dsimp only at h
 obtain rfl:=sj h
 exact k60s1 (tF q60 6 [2,3] (oD (dT p0.types_) <| oD (dI p0.names_) <| oD (dT p0.context_) <| oD (dC y3.2.2.2.2.2) <| oD (dE y3.2.2.2.2.1) <| oD (dI y3.2.2.2.1) <| oD (dI y3.2.2.1) <| oD (dE y3.2.1) <| oC 3 [] (c47 h5) k))
 dsimp only at h
 obtain rfl:=sj h
 exact k60s0 (tF q60 6 [2,4,3] (oD (dT p0.types_) <| oD (dI p0.names_) <| oD (dT p0.context_) <| oD (dC y3.2.2.2.2.2) <| oD (dE y3.2.2.2.2.1) <| oD (dI y3.2.2.2.1) <| oD (dI y3.2.2.1) <| oD (dE y3.2.1) <| oC 3 [] (c47 h5) k))
def e12 (qq:Nat) (p0:L17Case) (p1:Tm) (p2:U8):Option (Bool) :=
 e57 qq p0 [p1] >>= fun r1 =>
 if r1 then
 if decide (p0.fuel_ < 0) then
 e58 qq >>= fun r5 =>
 some r5
 else
 e60 qq p0 >>= fun r7 =>
 match r7 with
 | Sum.inl y9 =>
  e59 qq (Mach.mk y9.2.2.2.1 y9.2.2.2.2.2.2.2.2.1 y9.2.2.2.2.2.2.2.2.2 y9.2.2.2.2.1 y9.2.2.2.2.2.1) y9.2.2.2.2.2.2.1 y9.2.2.2.2.2.2.2.1 y9.1 y9.2.1 y9.2.2.1 p1 >>= fun r10 =>
  if r10.2.1 == 8 then
  e58 qq >>= fun r13 =>
  some r13
  else
  e60 qq (L17Case.mk p0.l_ p0.context_ p0.names_ p0.types_ (w64 (p0.fuel_ + (w64 (p2))))) >>= fun r15 =>
  match r15 with
  | Sum.inl y17 =>
   e59 qq (Mach.mk y17.2.2.2.1 y17.2.2.2.2.2.2.2.2.1 y17.2.2.2.2.2.2.2.2.2 y17.2.2.2.2.1 y17.2.2.2.2.2.1) y17.2.2.2.2.2.2.1 y17.2.2.2.2.2.2.2.1 y17.1 y17.2.1 y17.2.2.1 p1 >>= fun r18 =>
   if r10.2.1 == r18.2.1 then
   e25 qq r10.1 r18.1 >>= fun r21 =>
   if r21 then
   e58 qq >>= fun r24 =>
   some r24
   else
   some false
   else
   some false
  | Sum.inr (Sum.inl y26) =>
   e59va54170 qq y26.2.2.2.1 y26.2.2.2.2.2.2.1 y26.2.2.2.2.2.2.2 y26.2.2.2.2.1 y26.2.2.2.2.2.1 y26.1 y26.2.1 y26.2.2.1 p1 >>= fun r27 =>
   if r10.2.1 == r27.2 then
   e25 qq r10.1 r27.1 >>= fun r30 =>
   if r30 then
   e58 qq >>= fun r33 =>
   some r33
   else
   some false
   else
   some false
  | Sum.inr (Sum.inr (Sum.inl y35)) =>
   e59va19146 qq y35.2.2.2.1 y35.2.2.2.2 y35.1 y35.2.1 y35.2.2.1 p1 >>= fun r36 =>
   if r10.2.1 == r36.2.1 then
   e25 qq r10.1 r36.1 >>= fun r39 =>
   if r39 then
   e58 qq >>= fun r42 =>
   some r42
   else
   some false
   else
   some false
  | Sum.inr (Sum.inr (Sum.inr y44)) =>
   e59va53787 qq y44.1 y44.2.1 y44.2.2 p1 >>= fun r45 =>
   if r10.2.1 == r45.2 then
   e25 qq r10.1 r45.1 >>= fun r48 =>
   if r48 then
   e58 qq >>= fun r51 =>
   some r51
   else
   some false
   else
   some false
 | Sum.inr (Sum.inl y53) =>
  e59va54170 qq y53.2.2.2.1 y53.2.2.2.2.2.2.1 y53.2.2.2.2.2.2.2 y53.2.2.2.2.1 y53.2.2.2.2.2.1 y53.1 y53.2.1 y53.2.2.1 p1 >>= fun r54 =>
  if r54.2 == 8 then
  e58 qq >>= fun r57 =>
  some r57
  else
  e60 qq (L17Case.mk p0.l_ p0.context_ p0.names_ p0.types_ (w64 (p0.fuel_ + (w64 (p2))))) >>= fun r59 =>
  match r59 with
  | Sum.inl y61 =>
   e59 qq (Mach.mk y61.2.2.2.1 y61.2.2.2.2.2.2.2.2.1 y61.2.2.2.2.2.2.2.2.2 y61.2.2.2.2.1 y61.2.2.2.2.2.1) y61.2.2.2.2.2.2.1 y61.2.2.2.2.2.2.2.1 y61.1 y61.2.1 y61.2.2.1 p1 >>= fun r62 =>
   if r54.2 == r62.2.1 then
   e25 qq r54.1 r62.1 >>= fun r65 =>
   if r65 then
   e58 qq >>= fun r68 =>
   some r68
   else
   some false
   else
   some false
  | Sum.inr (Sum.inl y70) =>
   e59va54170 qq y70.2.2.2.1 y70.2.2.2.2.2.2.1 y70.2.2.2.2.2.2.2 y70.2.2.2.2.1 y70.2.2.2.2.2.1 y70.1 y70.2.1 y70.2.2.1 p1 >>= fun r71 =>
   if r54.2 == r71.2 then
   e25 qq r54.1 r71.1 >>= fun r74 =>
   if r74 then
   e58 qq >>= fun r77 =>
   some r77
   else
   some false
   else
   some false
  | Sum.inr (Sum.inr (Sum.inl y79)) =>
   e59va19146 qq y79.2.2.2.1 y79.2.2.2.2 y79.1 y79.2.1 y79.2.2.1 p1 >>= fun r80 =>
   if r54.2 == r80.2.1 then
   e25 qq r54.1 r80.1 >>= fun r83 =>
   if r83 then
   e58 qq >>= fun r86 =>
   some r86
   else
   some false
   else
   some false
  | Sum.inr (Sum.inr (Sum.inr y88)) =>
   e59va53787 qq y88.1 y88.2.1 y88.2.2 p1 >>= fun r89 =>
   if r54.2 == r89.2 then
   e25 qq r54.1 r89.1 >>= fun r92 =>
   if r92 then
   e58 qq >>= fun r95 =>
   some r95
   else
   some false
   else
   some false
 | Sum.inr (Sum.inr (Sum.inl y97)) =>
  e59va19146 qq y97.2.2.2.1 y97.2.2.2.2 y97.1 y97.2.1 y97.2.2.1 p1 >>= fun r98 =>
  if r98.2.1 == 8 then
  e58 qq >>= fun r101 =>
  some r101
  else
  e60 qq (L17Case.mk p0.l_ p0.context_ p0.names_ p0.types_ (w64 (p0.fuel_ + (w64 (p2))))) >>= fun r103 =>
  match r103 with
  | Sum.inl y105 =>
   e59 qq (Mach.mk y105.2.2.2.1 y105.2.2.2.2.2.2.2.2.1 y105.2.2.2.2.2.2.2.2.2 y105.2.2.2.2.1 y105.2.2.2.2.2.1) y105.2.2.2.2.2.2.1 y105.2.2.2.2.2.2.2.1 y105.1 y105.2.1 y105.2.2.1 p1 >>= fun r106 =>
   if r98.2.1 == r106.2.1 then
   e25 qq r98.1 r106.1 >>= fun r109 =>
   if r109 then
   e58 qq >>= fun r112 =>
   some r112
   else
   some false
   else
   some false
  | Sum.inr (Sum.inl y114) =>
   e59va54170 qq y114.2.2.2.1 y114.2.2.2.2.2.2.1 y114.2.2.2.2.2.2.2 y114.2.2.2.2.1 y114.2.2.2.2.2.1 y114.1 y114.2.1 y114.2.2.1 p1 >>= fun r115 =>
   if r98.2.1 == r115.2 then
   e25 qq r98.1 r115.1 >>= fun r118 =>
   if r118 then
   e58 qq >>= fun r121 =>
   some r121
   else
   some false
   else
   some false
  | Sum.inr (Sum.inr (Sum.inl y123)) =>
   e59va19146 qq y123.2.2.2.1 y123.2.2.2.2 y123.1 y123.2.1 y123.2.2.1 p1 >>= fun r124 =>
   if r98.2.1 == r124.2.1 then
   e25 qq r98.1 r124.1 >>= fun r127 =>
   if r127 then
   e58 qq >>= fun r130 =>
   some r130
   else
   some false
   else
   some false
  | Sum.inr (Sum.inr (Sum.inr y132)) =>
   e59va53787 qq y132.1 y132.2.1 y132.2.2 p1 >>= fun r133 =>
   if r98.2.1 == r133.2 then
   e25 qq r98.1 r133.1 >>= fun r136 =>
   if r136 then
   e58 qq >>= fun r139 =>
   some r139
   else
   some false
   else
   some false
 | Sum.inr (Sum.inr (Sum.inr y141)) =>
  e59va53787 qq y141.1 y141.2.1 y141.2.2 p1 >>= fun r142 =>
  if r142.2 == 8 then
  e58 qq >>= fun r145 =>
  some r145
  else
  e60 qq (L17Case.mk p0.l_ p0.context_ p0.names_ p0.types_ (w64 (p0.fuel_ + (w64 (p2))))) >>= fun r147 =>
  match r147 with
  | Sum.inl y149 =>
   e59 qq (Mach.mk y149.2.2.2.1 y149.2.2.2.2.2.2.2.2.1 y149.2.2.2.2.2.2.2.2.2 y149.2.2.2.2.1 y149.2.2.2.2.2.1) y149.2.2.2.2.2.2.1 y149.2.2.2.2.2.2.2.1 y149.1 y149.2.1 y149.2.2.1 p1 >>= fun r150 =>
   if r142.2 == r150.2.1 then
   e25 qq r142.1 r150.1 >>= fun r153 =>
   if r153 then
   e58 qq >>= fun r156 =>
   some r156
   else
   some false
   else
   some false
  | Sum.inr (Sum.inl y158) =>
   e59va54170 qq y158.2.2.2.1 y158.2.2.2.2.2.2.1 y158.2.2.2.2.2.2.2 y158.2.2.2.2.1 y158.2.2.2.2.2.1 y158.1 y158.2.1 y158.2.2.1 p1 >>= fun r159 =>
   if r142.2 == r159.2 then
   e25 qq r142.1 r159.1 >>= fun r162 =>
   if r162 then
   e58 qq >>= fun r165 =>
   some r165
   else
   some false
   else
   some false
  | Sum.inr (Sum.inr (Sum.inl y167)) =>
   e59va19146 qq y167.2.2.2.1 y167.2.2.2.2 y167.1 y167.2.1 y167.2.2.1 p1 >>= fun r168 =>
   if r142.2 == r168.2.1 then
   e25 qq r142.1 r168.1 >>= fun r171 =>
   if r171 then
   e58 qq >>= fun r174 =>
   some r174
   else
   some false
   else
   some false
  | Sum.inr (Sum.inr (Sum.inr y176)) =>
   e59va53787 qq y176.1 y176.2.1 y176.2.2 p1 >>= fun r177 =>
   if r142.2 == r177.2 then
   e25 qq r142.1 r177.1 >>= fun r180 =>
   if r180 then
   e58 qq >>= fun r183 =>
   some r183
   else
   some false
   else
   some false
 else
 e58 qq >>= fun r185 =>
 some r185
abbrev K12 (p0:L17Case) (p1:Tm) (p2:U8) (r:Bool) (C:Cf):Prop:=C 12 [] [l17CaseA p0,tmA p1,.val (.int .u8 p2)] (ab r) [] 0
theorem q12:Qf 12 Tryz.f12:=⟨Tryz.func12,by kernel_rfl⟩
theorem k12 {p0 p1 p2 r} (h:K12 p0 p1 p2 r Ci):K12 p0 p1 p2 r Ct:=⟨h,⟨⟨⟨tv,dE _⟩,⟨tv,dT _⟩,⟨tv,dI _⟩,⟨tv,dT _⟩,tv,tv⟩,⟨tv,tv,⟨tv,dT _⟩,tv⟩,tv,tv⟩,forall_nil,tv,forall_nil⟩
theorem c12 {qq p0 p1 p2 r} (h:e12 qq p0 p1 p2 = some r):K12 p0 p1 p2 r Ct:=by
 unfold e12 at h
 obtain ⟨r1,h2,h⟩:=obind h
 have k:=oS 2 (obLitR tm_eq [p1]) o0
 rcases spl h with ⟨h3,h⟩ | ⟨h3,h⟩
 have k:=oK 0 [] h3 (c57 h2) k
 rcases spl h with ⟨h4,h⟩ | ⟨h4,h⟩
 obtain ⟨r5,h6,h⟩:=obind h
 obtain rfl:=sj h
 exact k12 (tF q12 0 [] (oC 0 [] (c58 h6) <| oB 2 h4 k))
 obtain ⟨r7,h8,h⟩:=obind h
 have k:=oB 2 h4 k
 rcases r7 with y9 | (y53 | (y97 | y141))
 dsimp only at h
 obtain ⟨r10,h11,h⟩:=obind h
 have k:=oC 1 [2,4,3] (c59 h11) <| oC 1 [] (c60 h8) k
 rcases spl h with ⟨h12,h⟩ | ⟨h12,h⟩
 obtain ⟨r13,h14,h⟩:=obind h
 obtain rfl:=sj h
 exact k12 (tF q12 0 [] (oC 0 [] (c58 h14) <| oB 3 h12 k))
 obtain ⟨r15,h16,h⟩:=obind h
 have k:=oB 3 h12 k
 rcases r15 with y17 | (y26 | (y35 | y44))
 dsimp only at h
 obtain ⟨r18,h19,h⟩:=obind h
 have k:=oC 1 [6,8,7] (c59 h19) <| oC 5 [] (c60 h16) k
 rcases spl h with ⟨h20,h⟩ | ⟨h20,h⟩
 obtain ⟨r21,h22,h⟩:=obind h
 have k:=oB 3 h20 k
 rcases spl h with ⟨h23,h⟩ | ⟨h23,h⟩
 obtain ⟨r24,h25,h⟩:=obind h
 obtain rfl:=sj h
 exact k12 (tF q12 0 [] (oC 0 [] (c58 h25) <| oK 2 [] h23 (c25 h22) k))
 obtain rfl:=sj h
 exact k12 (tF q12 0 [] (oK 2 [] h23 (c25 h22) k))
 obtain rfl:=sj h
 exact k12 (tF q12 0 [] (oB 3 h20 k))
 dsimp only at h
 obtain ⟨r27,h28,h⟩:=obind h
 have k:=oC 1 [6,7] (c59va54170 h28) <| oC 5 [] (c60 h16) k
 rcases spl h with ⟨h29,h⟩ | ⟨h29,h⟩
 obtain ⟨r30,h31,h⟩:=obind h
 have k:=oB 3 h29 k
 rcases spl h with ⟨h32,h⟩ | ⟨h32,h⟩
 obtain ⟨r33,h34,h⟩:=obind h
 obtain rfl:=sj h
 exact k12 (tF q12 0 [] (oC 0 [] (c58 h34) <| oK 2 [] h32 (c25 h31) k))
 obtain rfl:=sj h
 exact k12 (tF q12 0 [] (oK 2 [] h32 (c25 h31) k))
 obtain rfl:=sj h
 exact k12 (tF q12 0 [] (oB 3 h29 k))
 dsimp only at h
 obtain ⟨r36,h37,h⟩:=obind h
 have k:=oC 1 [6] (c59va19146 h37) <| oC 5 [] (c60 h16) k
 rcases spl h with ⟨h38,h⟩ | ⟨h38,h⟩
 obtain ⟨r39,h40,h⟩:=obind h
 have k:=oB 3 h38 k
 rcases spl h with ⟨h41,h⟩ | ⟨h41,h⟩
 obtain ⟨r42,h43,h⟩:=obind h
 obtain rfl:=sj h
 exact k12 (tF q12 0 [] (oC 0 [] (c58 h43) <| oK 2 [] h41 (c25 h40) k))
 obtain rfl:=sj h
 exact k12 (tF q12 0 [] (oK 2 [] h41 (c25 h40) k))
 obtain rfl:=sj h
 exact k12 (tF q12 0 [] (oB 3 h38 k))
 dsimp only at h
 obtain ⟨r45,h46,h⟩:=obind h
 have k:=oC 1 [] (c59va53787 h46) <| oC 5 [] (c60 h16) k
 rcases spl h with ⟨h47,h⟩ | ⟨h47,h⟩
 obtain ⟨r48,h49,h⟩:=obind h
 have k:=oB 3 h47 k
 rcases spl h with ⟨h50,h⟩ | ⟨h50,h⟩
 obtain ⟨r51,h52,h⟩:=obind h
 obtain rfl:=sj h
 exact k12 (tF q12 0 [] (oC 0 [] (c58 h52) <| oK 2 [] h50 (c25 h49) k))
 obtain rfl:=sj h
 exact k12 (tF q12 0 [] (oK 2 [] h50 (c25 h49) k))
 obtain rfl:=sj h
 exact k12 (tF q12 0 [] (oB 3 h47 k))
 dsimp only at h
 obtain ⟨r54,h55,h⟩:=obind h
 have k:=oC 1 [2,3] (c59va54170 h55) <| oC 1 [] (c60 h8) k
 rcases spl h with ⟨h56,h⟩ | ⟨h56,h⟩
 obtain ⟨r57,h58,h⟩:=obind h
 obtain rfl:=sj h
 exact k12 (tF q12 0 [] (oC 0 [] (c58 h58) <| oB 3 h56 k))
 obtain ⟨r59,h60,h⟩:=obind h
 have k:=oB 3 h56 k
 rcases r59 with y61 | (y70 | (y79 | y88))
 dsimp only at h
 obtain ⟨r62,h63,h⟩:=obind h
 have k:=oC 1 [5,7,6] (c59 h63) <| oC 5 [] (c60 h60) k
 rcases spl h with ⟨h64,h⟩ | ⟨h64,h⟩
 obtain ⟨r65,h66,h⟩:=obind h
 have k:=oB 3 h64 k
 rcases spl h with ⟨h67,h⟩ | ⟨h67,h⟩
 obtain ⟨r68,h69,h⟩:=obind h
 obtain rfl:=sj h
 exact k12 (tF q12 0 [] (oC 0 [] (c58 h69) <| oK 2 [] h67 (c25 h66) k))
 obtain rfl:=sj h
 exact k12 (tF q12 0 [] (oK 2 [] h67 (c25 h66) k))
 obtain rfl:=sj h
 exact k12 (tF q12 0 [] (oB 3 h64 k))
 dsimp only at h
 obtain ⟨r71,h72,h⟩:=obind h
 have k:=oC 1 [5,6] (c59va54170 h72) <| oC 5 [] (c60 h60) k
 rcases spl h with ⟨h73,h⟩ | ⟨h73,h⟩
 obtain ⟨r74,h75,h⟩:=obind h
 have k:=oB 3 h73 k
 rcases spl h with ⟨h76,h⟩ | ⟨h76,h⟩
 obtain ⟨r77,h78,h⟩:=obind h
 obtain rfl:=sj h
 exact k12 (tF q12 0 [] (oC 0 [] (c58 h78) <| oK 2 [] h76 (c25 h75) k))
 obtain rfl:=sj h
 exact k12 (tF q12 0 [] (oK 2 [] h76 (c25 h75) k))
 obtain rfl:=sj h
 exact k12 (tF q12 0 [] (oB 3 h73 k))
 dsimp only at h
 obtain ⟨r80,h81,h⟩:=obind h
 have k:=oC 1 [5] (c59va19146 h81) <| oC 5 [] (c60 h60) k
 rcases spl h with ⟨h82,h⟩ | ⟨h82,h⟩
 obtain ⟨r83,h84,h⟩:=obind h
 have k:=oB 3 h82 k
 rcases spl h with ⟨h85,h⟩ | ⟨h85,h⟩
 obtain ⟨r86,h87,h⟩:=obind h
 obtain rfl:=sj h
 exact k12 (tF q12 0 [] (oC 0 [] (c58 h87) <| oK 2 [] h85 (c25 h84) k))
 obtain rfl:=sj h
 exact k12 (tF q12 0 [] (oK 2 [] h85 (c25 h84) k))
 obtain rfl:=sj h
 exact k12 (tF q12 0 [] (oB 3 h82 k))
 dsimp only at h
 obtain ⟨r89,h90,h⟩:=obind h
 have k:=oC 1 [] (c59va53787 h90) <| oC 5 [] (c60 h60) k
 rcases spl h with ⟨h91,h⟩ | ⟨h91,h⟩
 obtain ⟨r92,h93,h⟩:=obind h
 have k:=oB 3 h91 k
 rcases spl h with ⟨h94,h⟩ | ⟨h94,h⟩
 obtain ⟨r95,h96,h⟩:=obind h
 obtain rfl:=sj h
 exact k12 (tF q12 0 [] (oC 0 [] (c58 h96) <| oK 2 [] h94 (c25 h93) k))
 obtain rfl:=sj h
 exact k12 (tF q12 0 [] (oK 2 [] h94 (c25 h93) k))
 obtain rfl:=sj h
 exact k12 (tF q12 0 [] (oB 3 h91 k))
 dsimp only at h
 obtain ⟨r98,h99,h⟩:=obind h
 have k:=oC 1 [2] (c59va19146 h99) <| oC 1 [] (c60 h8) k
 rcases spl h with ⟨h100,h⟩ | ⟨h100,h⟩
 obtain ⟨r101,h102,h⟩:=obind h
 obtain rfl:=sj h
 exact k12 (tF q12 0 [] (oC 0 [] (c58 h102) <| oB 3 h100 k))
 obtain ⟨r103,h104,h⟩:=obind h
 have k:=oB 3 h100 k
 rcases r103 with y105 | (y114 | (y123 | y132))
 dsimp only at h
 obtain ⟨r106,h107,h⟩:=obind h
 have k:=oC 1 [4,6,5] (c59 h107) <| oC 5 [] (c60 h104) k
 rcases spl h with ⟨h108,h⟩ | ⟨h108,h⟩
 obtain ⟨r109,h110,h⟩:=obind h
 have k:=oB 3 h108 k
 rcases spl h with ⟨h111,h⟩ | ⟨h111,h⟩
 obtain ⟨r112,h113,h⟩:=obind h
 obtain rfl:=sj h
 exact k12 (tF q12 0 [] (oC 0 [] (c58 h113) <| oK 2 [] h111 (c25 h110) k))
 obtain rfl:=sj h
 exact k12 (tF q12 0 [] (oK 2 [] h111 (c25 h110) k))
 obtain rfl:=sj h
 exact k12 (tF q12 0 [] (oB 3 h108 k))
 dsimp only at h
 obtain ⟨r115,h116,h⟩:=obind h
 have k:=oC 1 [4,5] (c59va54170 h116) <| oC 5 [] (c60 h104) k
 rcases spl h with ⟨h117,h⟩ | ⟨h117,h⟩
 obtain ⟨r118,h119,h⟩:=obind h
 have k:=oB 3 h117 k
 rcases spl h with ⟨h120,h⟩ | ⟨h120,h⟩
 obtain ⟨r121,h122,h⟩:=obind h
 obtain rfl:=sj h
 exact k12 (tF q12 0 [] (oC 0 [] (c58 h122) <| oK 2 [] h120 (c25 h119) k))
 obtain rfl:=sj h
 exact k12 (tF q12 0 [] (oK 2 [] h120 (c25 h119) k))
 obtain rfl:=sj h
 exact k12 (tF q12 0 [] (oB 3 h117 k))
 dsimp only at h
 obtain ⟨r124,h125,h⟩:=obind h
 have k:=oC 1 [4] (c59va19146 h125) <| oC 5 [] (c60 h104) k
 rcases spl h with ⟨h126,h⟩ | ⟨h126,h⟩
 obtain ⟨r127,h128,h⟩:=obind h
 have k:=oB 3 h126 k
 rcases spl h with ⟨h129,h⟩ | ⟨h129,h⟩
 obtain ⟨r130,h131,h⟩:=obind h
 obtain rfl:=sj h
 exact k12 (tF q12 0 [] (oC 0 [] (c58 h131) <| oK 2 [] h129 (c25 h128) k))
 obtain rfl:=sj h
 exact k12 (tF q12 0 [] (oK 2 [] h129 (c25 h128) k))
 obtain rfl:=sj h
 exact k12 (tF q12 0 [] (oB 3 h126 k))
 dsimp only at h
 obtain ⟨r133,h134,h⟩:=obind h
 have k:=oC 1 [] (c59va53787 h134) <| oC 5 [] (c60 h104) k
 rcases spl h with ⟨h135,h⟩ | ⟨h135,h⟩
 obtain ⟨r136,h137,h⟩:=obind h
 have k:=oB 3 h135 k
 rcases spl h with ⟨h138,h⟩ | ⟨h138,h⟩
 obtain ⟨r139,h140,h⟩:=obind h
 obtain rfl:=sj h
 exact k12 (tF q12 0 [] (oC 0 [] (c58 h140) <| oK 2 [] h138 (c25 h137) k))
 obtain rfl:=sj h
 exact k12 (tF q12 0 [] (oK 2 [] h138 (c25 h137) k))
 obtain rfl:=sj h
 exact k12 (tF q12 0 [] (oB 3 h135 k))
 dsimp only at h
 obtain ⟨r142,h143,h⟩:=obind h
 have k:=oC 1 [] (c59va53787 h143) <| oC 1 [] (c60 h8) k
 rcases spl h with ⟨h144,h⟩ | ⟨h144,h⟩
 obtain ⟨r145,h146,h⟩:=obind h
 obtain rfl:=sj h
 exact k12 (tF q12 0 [] (oC 0 [] (c58 h146) <| oB 3 h144 k))
 obtain ⟨r147,h148,h⟩:=obind h
 have k:=oB 3 h144 k
 rcases r147 with y149 | (y158 | (y167 | y176))
 dsimp only at h
 obtain ⟨r150,h151,h⟩:=obind h
 have k:=oC 1 [3,5,4] (c59 h151) <| oC 5 [] (c60 h148) k
 rcases spl h with ⟨h152,h⟩ | ⟨h152,h⟩
 obtain ⟨r153,h154,h⟩:=obind h
 have k:=oB 3 h152 k
 rcases spl h with ⟨h155,h⟩ | ⟨h155,h⟩
 obtain ⟨r156,h157,h⟩:=obind h
 obtain rfl:=sj h
 exact k12 (tF q12 0 [] (oC 0 [] (c58 h157) <| oK 2 [] h155 (c25 h154) k))
 obtain rfl:=sj h
 exact k12 (tF q12 0 [] (oK 2 [] h155 (c25 h154) k))
 obtain rfl:=sj h
 exact k12 (tF q12 0 [] (oB 3 h152 k))
 dsimp only at h
 obtain ⟨r159,h160,h⟩:=obind h
 have k:=oC 1 [3,4] (c59va54170 h160) <| oC 5 [] (c60 h148) k
 rcases spl h with ⟨h161,h⟩ | ⟨h161,h⟩
 obtain ⟨r162,h163,h⟩:=obind h
 have k:=oB 3 h161 k
 rcases spl h with ⟨h164,h⟩ | ⟨h164,h⟩
 obtain ⟨r165,h166,h⟩:=obind h
 obtain rfl:=sj h
 exact k12 (tF q12 0 [] (oC 0 [] (c58 h166) <| oK 2 [] h164 (c25 h163) k))
 obtain rfl:=sj h
 exact k12 (tF q12 0 [] (oK 2 [] h164 (c25 h163) k))
 obtain rfl:=sj h
 exact k12 (tF q12 0 [] (oB 3 h161 k))
 dsimp only at h
 obtain ⟨r168,h169,h⟩:=obind h
 have k:=oC 1 [3] (c59va19146 h169) <| oC 5 [] (c60 h148) k
 rcases spl h with ⟨h170,h⟩ | ⟨h170,h⟩
 obtain ⟨r171,h172,h⟩:=obind h
 have k:=oB 3 h170 k
 rcases spl h with ⟨h173,h⟩ | ⟨h173,h⟩
 obtain ⟨r174,h175,h⟩:=obind h
 obtain rfl:=sj h
 exact k12 (tF q12 0 [] (oC 0 [] (c58 h175) <| oK 2 [] h173 (c25 h172) k))
 obtain rfl:=sj h
 exact k12 (tF q12 0 [] (oK 2 [] h173 (c25 h172) k))
 obtain rfl:=sj h
 exact k12 (tF q12 0 [] (oB 3 h170 k))
 dsimp only at h
 obtain ⟨r177,h178,h⟩:=obind h
 have k:=oC 1 [] (c59va53787 h178) <| oC 5 [] (c60 h148) k
 rcases spl h with ⟨h179,h⟩ | ⟨h179,h⟩
 obtain ⟨r180,h181,h⟩:=obind h
 have k:=oB 3 h179 k
 rcases spl h with ⟨h182,h⟩ | ⟨h182,h⟩
 obtain ⟨r183,h184,h⟩:=obind h
 obtain rfl:=sj h
 exact k12 (tF q12 0 [] (oC 0 [] (c58 h184) <| oK 2 [] h182 (c25 h181) k))
 obtain rfl:=sj h
 exact k12 (tF q12 0 [] (oK 2 [] h182 (c25 h181) k))
 obtain rfl:=sj h
 exact k12 (tF q12 0 [] (oB 3 h179 k))
 obtain ⟨r185,h186,h⟩:=obind h
 obtain rfl:=sj h
 exact k12 (tF q12 0 [] (oC 1 [] (c58 h186) <| oK 0 [] h3 (c57 h2) k))
theorem tot_ilightL (l : List Tm) (hl : l.length ≤ 100) : ∀ (r : List Tm) (v : Nat), l.drop v = r → Tot (fun q => e57L42931 q l (v : Int)) (fun _ => True)
  | [], v, hd => by
    refine Tot.succ ?_
    simp only [e57L42931]
    exact Tot.ite (fun h => by rw [drop_nil hd] at h; cases h) fun _ => Tot.ret trivial
  | t :: r, v, hd => by
    have hlt := drop_lt hd
    refine Tot.succ ?_
    simp only [e57L42931]
    refine Tot.ite (fun _ => Tot.pure (drop_idx hd) (Tot.bind (P := fun _ => True) ((ev_rSize t).tot trivial) fun b _ => Tot.ite (fun _ => Tot.ret trivial) fun _ => ?_)) fun _ => Tot.ret trivial
    rw [w64_nat v (by omega)]
    exact tot_ilightL l hl r (v + 1) (drop_next hd)
theorem tot_ilight (c : L17Case) (t : Tm) : Tot (fun q => e57 q c [t]) (fun b => b = true → c.l_.length ≤ 60 ∧ c.context_.length ≤ 12 ∧ c.names_.length ≤ 12 ∧ c.types_.length ≤ 12 ∧ c.fuel_ ≤ 600) := by
  simp only [e57]
  refine Tot.ite (fun _ => Tot.ret fun h => by cases h) fun h1 => Tot.ite (fun _ => Tot.ret fun h => by cases h) fun h2 => Tot.ite (fun _ => Tot.ret fun h => by cases h) fun h3 => Tot.ite (fun _ => Tot.ret fun h => by cases h) fun h4 => Tot.ite (fun _ => Tot.ret fun h => by cases h) fun _ => Tot.ite (fun _ => Tot.ret fun h => by cases h) fun h5 => ?_
  have h1 := of_decide_eq_false h1
  have h2 := of_decide_eq_false h2
  have h3 := of_decide_eq_false h3
  have h4 := of_decide_eq_false h4
  have h5 := of_decide_eq_false h5
  refine Tot.pure (gapp_ok (by simp <;> omega)) (Tot.pure (gapp_ok (by simp <;> omega)) (Tot.pure (gapp_ok (by simp <;> omega)) ?_))
  obtain ⟨b, hb, -⟩ := tot_ilightL ([] ++ c.context_ ++ c.types_ ++ [t]) (by simp; omega) _ 0 rfl
  exact ⟨b, hb, fun _ => ⟨by omega, by omega, by omega, by omega, by omega⟩⟩
def rtsT (l : List Ent) (ns : List Int) (ts p : List Tm) : Bool := decide (ns.length = ts.length) && p.all fun x => decide (RightM l x)
theorem rtsT_spec {l : List Ent} {ns : List Int} {ts p : List Tm} (h : rtsT l ns ts p = true) : ns.length = ts.length ∧ ∀ x ∈ p, RightM l x := by
  unfold rtsT at h
  simp only [Bool.and_eq_true, List.all_eq_true, decide_eq_true_eq] at h
  exact h
theorem ev_wrightL (l : List Ent) (ctx : List Tm) (ns : List Int) (ts p : List Tm) (L U : Int) (hl : p.length ≤ 100) : ∀ (r : List Tm) (v : Nat), p.drop v = r → OkA r → Evt (fun q => e188L30867 q (machT l) L U ctx ns ts p (v : Int)) (r.all fun x => decide (RightM l x))
  | [], v, hd, _ => by
    refine Evt.succ ?_
    simp only [e188L30867]
    exact Evt.ifF (drop_nil hd) Evt.ret
  | t :: r, v, hd, ho => by
    have hlt := drop_lt hd
    refine Evt.succ ?_
    simp only [e188L30867]
    have hr : Evt (fun q => e108 q t 1048577 (l.length : Int)) (decide (RightM l t)) := (ev_Right t _ _ (ho t (by simp))).eq (by show _ = decide (rightT t 1048577 l.length = true); simp)
    refine Evt.ifT (drop_dec hd) (Evt.pure (drop_idx hd) (Evt.bind (a := (l.length : Int)) (Evt.mk fun q => rfl) (hr.bind ?_)))
    by_cases h : RightM l t
    · refine Evt.ifT (by simpa using h) ?_
      rw [w64_nat v (by omega)]
      exact (ev_wrightL l ctx ns ts p L U hl r (v + 1) (drop_next hd) fun x hx => ho x (by simp [hx])).eq (by simp [h])
    · exact Evt.ifF (by simpa using h) (Evt.ret.eq (by simp [h]))
theorem ev_wright (l : List Ent) (ctx : List Tm) (ns : List Int) (ts p : List Tm) (L U : Int) (hl : p.length ≤ 100) (ho : OkA p) : Evt (fun q => e188 q (machT l) L U ctx ns ts p) (rtsT l ns ts p) := by
  simp only [e188]
  unfold rtsT
  by_cases h : ns.length = ts.length
  · exact Evt.ifF (by simp [h]) ((ev_wrightL l ctx ns ts p L U hl p 0 rfl ho).eq (by simp [h]))
  · exact Evt.ifT (by simp; omega) (Evt.ret.eq (by simp [h]))
section
variable {N : ByteArray → Bool} (l : List Ent) (hE : AllE N l) (he : ∀ e ∈ l, EOk e) (hl : l.length ≤ 65535) (hc : ∀ e ∈ l, ECl e)
include hE he hl hc
theorem ev_start (ctx : List Tm) (ns : List Int) (ts : List Tm) (t : Tm) (hcl : ctx.length ≤ 100) (htl : ts.length ≤ 100) (hoc : OkA ctx) (hot : OkA ts) (ho : t.Ok) (L U : Int) : Evt (fun q => e122 q (machT l) L U ctx ns ts [t]) (if (rtsT l ns ts [t] && rtsT l ns ts ctx && rtsT l ns ts ts) = true then .inl (0, ctx, ns, ts, l) else .inr 5) := by
  simp only [e122]
  refine (ev_wright l ctx ns ts [t] L U (by simp) (OkA.one ho)).bind ?_
  by_cases h1 : rtsT l ns ts [t] = true
  · refine Evt.ifT h1 ((ev_wright l ctx ns ts ctx L U hcl hoc).bind ?_)
    by_cases h2 : rtsT l ns ts ctx = true
    · refine Evt.ifT h2 ((ev_wright l ctx ns ts ts L U htl hot).bind ?_)
      by_cases h3 : rtsT l ns ts ts = true
      · refine Evt.ifT h3 (Evt.bind (a := l) ?_ (Evt.ret.eq (by simp [h1, h2, h3])))
        simp only [e183]
        exact ((ev_sCopy l hl he hc).eq (copy_same hE)).bind Evt.ret
      · exact Evt.ifF (by simpa using h3) (Evt.ret.eq (by simp [h3]))
    · exact Evt.ifF (by simpa using h2) (Evt.ret.eq (by simp [h2]))
  · exact Evt.ifF (by simpa using h1) (Evt.ret.eq (by simp [h1]))
theorem out_Infer (hF : Evt (fun q => e73 q l) true) (ctx : List Tm) (ns : List Int) (ts : List Tm) (t : Tm) (hcl : ctx.length ≤ 100) (htl : ts.length ≤ 100) (hoc : OkA ctx) (hot : OkA ts) (ho : t.Ok) (f : Int) (hf : 0 ≤ f) :
    Ou (fun L U q => e59 q (machT l) L U ctx ns ts t) er4 QI True f := by
  simp only [e59]
  by_cases h : (rtsT l ns ts [t] && rtsT l ns ts ctx && rtsT l ns ts ts) = true
  · have hh := h
    simp only [Bool.and_eq_true] at h
    obtain ⟨⟨h1, h2⟩, h3⟩ := h
    have hR := (rtsT_spec h1).2 t (by simp)
    have hns := (rtsT_spec h1).1
    refine Ou.imp (f := fun L U q => e123 q (machT l) L U ctx ns ts l t >>= fun r5 => if (r5.2.1 != 0) = true then some ((Tm.mk 0 0 []), r5.2.1, r5.2.2.1, r5.2.2.2) else e84 q r5.1 >>= fun r8 => some (r8, 0, r5.2.2.1, r5.2.2.2)) ?_ fun L U r k => ((ev_start l hE he hl hc ctx ns ts t hcl htl hoc hot ho L U).eq (if_pos hh)).bind (Evt.ifF rfl k)
    have hn := (shapedT_spec hR.shaped).1
    refine Ou.bind ((out_all3 l hE he hl hc hF ns ts hot hns (by omega) t.nodes t hR (Nat.le_refl _)).1 ctx f hoc (by omega) hf) id (fun r hr => ⟨_, Evt.ifT (ne8 hr) Evt.ret, hr⟩) ?_
    rintro R k k0 k1 ⟨a, e, ha, h8, rfl⟩
    dsimp only
    refine Ou.ite (fun _ => Ou.ret (by omega) ⟨_, e, leaf_ok 0 0, h8, rfl⟩) fun _ => Ou.evt (ev_Copy a ha) (Ou.ret (by omega) ⟨_, 0, ?_, by decide, rfl⟩)
    unfold copT; split
    · exact ha
    · exact leaf_ok 0 0
  · refine Ou.imp (f := fun L U q => some (zT, 5, L, U)) (Ou.ret hf ⟨zT, 5, zT_ok, by decide, rfl⟩) fun L U r k => ((ev_start l hE he hl hc ctx ns ts t hcl htl hoc hot ho L U).eq (if_neg h)).bind (Evt.ifT rfl k)
end
theorem ev_iawake : Evt (fun q => e58 q) true := by
  have hE : AllE (fun _ => true) [] := ⟨by simp, fun i h0 h1 => by simp at h1; omega⟩
  have hI : Evt (fun q => e59 q (machT []) 5 0 [] [] [] sT) (Tm.mk 2 3 [], 0, 5, 0) := by
    simp only [e59]
    refine ((ev_start [] hE (fun _ h => nomatch h) (by simp) (fun _ h => nomatch h) [] [] [] sT (by simp) (by simp) OkA.nil OkA.nil (leaf_ok 2 2) 5 0).eq (if_pos (by kernel_rfl))).bind (Evt.ifF rfl (Evt.bind (a := (Tm.mk 2 3 [], 0, 5, 0)) (Evt.succ ?_) (Evt.ifF rfl (Evt.bind (a := Tm.mk 2 3 []) ((ev_Copy _ (leaf_ok 2 3)).eq (if_pos (by kernel_rfl))) Evt.ret))))
    simp only [e123]
    exact Evt.ifF rfl (Evt.ifF rfl (Evt.ifF rfl (Evt.ifF rfl (Evt.ifT rfl (Evt.ifF rfl (((ev_Sort _).eq rfl).bind Evt.ret))))))
  have hO : Evt (fun q => e121 q [] sT 5) (Tm.mk 2 3 [], 0) := by
    simp only [e121]
    exact ev_nNew.bind (Evt.ifF rfl ((ev_mNew 5 (by omega) (by omega)).bind (Evt.ifF rfl (Evt.bind (a := (Tm.mk 2 3 [], 0, 5, 0)) hI Evt.ret))))
  simp only [e58]
  exact Evt.bind (a := (Tm.mk 2 3 [], 0)) hO (Evt.ifT rfl (Evt.ifT rfl Evt.ret))
theorem ev_InferFuel (c : L17Case) (t : Tm) (n : Int) (he : ∀ e ∈ c.l_, EOk e) (hc : ∀ e ∈ c.l_, ECl e) (hoc : OkA c.context_) (hot : OkA c.types_) (ho : t.Ok) (hn : 0 ≤ n ∧ n < 256) : Evt (fun q => e12 q c t n) true := by
  obtain ⟨l, ctx, ns, ts, f⟩ := c
  simp only at he hc hoc hot
  simp only [e12]
  obtain ⟨b, hb, hb'⟩ := tot_ilight ⟨l, ctx, ns, ts, f⟩ t
  refine hb.bind ?_
  cases b with
  | false => exact Evt.ifF rfl (ev_iawake.bind Evt.ret)
  | true =>
    obtain ⟨hl, hcl, -, htl, hf⟩ := hb' rfl
    simp only at hl hcl htl hf
    refine Evt.ifT rfl (Evt.iff (fun _ => ev_iawake.bind Evt.ret) fun h => ?_)
    have hf0 := of_decide_eq_false h
    rw [w64_id (x := n) (by omega) (by omega), w64_id (x := f + n) (by omega) (by omega)]
    obtain ⟨N, hN⟩ := names_by
    obtain ⟨b, hF, hA, hnw⟩ := ev_wNew N hN l (by omega) he hc
    cases b with
    | false =>
      have hw : ∀ g, 0 ≤ g → g ≤ 1048576 → Evt (fun q => e60 q ⟨l, ctx, ns, ts, g⟩) (.inr (.inr (.inl (ctx, ns, ts, g, 0)))) := fun g g0 g1 => by
        simp only [e60]
        exact hnw.bind ((ev_mNew g g0 g1).bind Evt.ret)
      have hI : ∀ g, Evt (fun q => e59va19146 q g 0 ctx ns ts t) (zT, 5, g, 0) := fun g => by
        simp only [e59va19146, e122va35143, e188va35143]
        exact Evt.bind (a := Sum.inr 5) (Evt.bind (a := false) Evt.ret (Evt.ifF rfl Evt.ret)) (Evt.ifT rfl Evt.ret)
      exact (hw f (by omega) (by omega)).bind ((hI f).bind (Evt.ifF rfl ((hw (f + n) (by omega) (by omega)).bind ((hI (f + n)).bind (Evt.ifT rfl ((ev_rEqual zT zT_ok).bind (Evt.ifT rfl (ev_iawake.bind Evt.ret))))))))
    | true =>
      have hE := hA rfl
      have hw : ∀ g, 0 ≤ g → g ≤ 1048576 → Evt (fun q => e60 q ⟨l, ctx, ns, ts, g⟩) (.inl (ctx, ns, ts, l, l.map argsT, l.map ownT, g, 0, l, evA l l.length 0)) := fun g g0 g1 => by
        simp only [e60]
        exact hnw.bind ((ev_mNew g g0 g1).bind Evt.ret)
      refine (hw f (by omega) (by omega)).bind ?_
      rcases out_Infer l hE he (by omega) hc hF ctx ns ts t (by omega) (by omega) hoc hot ho f (by omega) with ⟨R, k, k0, k1, ⟨a, e, ha, h8, rfl⟩, hg, -⟩ | ⟨hs, -⟩
      · have g1 := hg f 0 k1 (by omega) (by omega)
        have g2 := hg (f + n) 0 (by omega) (by omega) (by omega)
        exact Evt.bind g1 (Evt.ifF (by simpa using h8) ((hw (f + n) (by omega) (by omega)).bind (Evt.bind g2 (Evt.ifT (by simp) ((ev_rEqual a ha).bind (Evt.ifT rfl (ev_iawake.bind Evt.ret)))))))
      · obtain ⟨r, h1, h2⟩ := hs 0 (by omega) (by omega)
        have h2' : r.2.1 = 8 := h2
        exact Evt.bind h1 (Evt.ifT (by simpa using h2') (ev_iawake.bind Evt.ret))
theorem u8_wf {x : Int} (h : (Lit.int .u8 x).wf = true) : 0 ≤ x ∧ x < 256 := by
  have e1 : IntKind.u8.min = 0 := rfl
  have e2 : IntKind.u8.max = 255 := rfl
  simp [Lit.wf] at h
  omega
theorem rdE_ok {l : List Ent} (h : ∀ e ∈ l, RdE e) : ∀ e ∈ l, EOk e := fun e he => ⟨(h e he).1, (h e he).2.1, Nat.le_trans (h e he).2.2.1 (by decide), Nat.le_trans (h e he).2.2.2 (by decide)⟩
theorem rdE_cl {l : List Ent} (h : ∀ e ∈ l, RdE e) : ∀ e ∈ l, ECl e := fun e he => ⟨(h e he).2.2.1, (h e he).2.2.2⟩
theorem okA_of : ∀ {l : List Tm}, OkL l → OkA l
  | [], _ => OkA.nil
  | t :: l, h => by
    rw [OkL] at h
    intro x hx
    rcases List.mem_cons.1 hx with rfl | hx
    · exact h.1
    · exact okA_of h.2 x hx
theorem inferFuel_ct (c : L17Case) (t : Tm) (n : Int) (w0 : RdL17Case c) (w1 : t.Ok) (w2 : (Lit.int .u8 n).wf = true) : CT Tryz.prog 12 [] [.agg (l17CaseL c), tmA t, .val (.int .u8 n)] (ab true) [] 0 := by
  obtain ⟨q, hq⟩ := (ev_InferFuel c t n (rdE_ok w0.1) (rdE_cl w0.1) (okA_of w0.2.1.1) (okA_of w0.2.2.2.1) w1 (u8_wf w2)).at
  exact c12 hq
end Go.Proofs.YteiddempdecleaaGreat
