/- THE SEAT's SLICE TYPES, written in place. -/
import Derived.Test.YtkeipljdhcbfoaaGreatAbRev
import Derived.Test.YtkeipljdhcbfoaaGreatAbRow
namespace Go.Proofs.YtkeipljdhcbfoaaGreat
open Go Go.Ab

theorem ixM22 {b n k : Nat} {i : Int} (h : gchk n i = some k) : aindexAddr Tryz.prog 22 (.ms b 0 n) (ai i) = some (.mp b (k * 3)) := chk_ok Tryz.underlying22 info24 rfl h
theorem mkM22 {n : Int} {l : List Tm} (h : gmk 40 (default : Tm) n = some l) : Ob.ok Tryz.prog (.mk (amakems Tryz.prog 22 (ai n) (ai n)) (flat tmCells l) l.length) := mk_ok Tryz.underlying22 info24 rfl rfl rfl (by decide) rfl (by decide) (by rfl) h
theorem slTo3_22 {l r : List Tm} {b : Int} {o : Own} (h : gsl l 0 b = some r) : aslice Tryz.prog 22 (.sl (flat tmCells l) l.length o) none (some (ai b)) (some (ai b)) = some (.sl (flat tmCells r) r.length .full) := sliceTo3_ok codecT Tryz.underlying22 info24 rfl h
theorem ixM37 {b n k : Nat} {i : Int} (h : gchk n i = some k) : aindexAddr Tryz.prog 37 (.ms b 0 n) (ai i) = some (.mp b (k * 15)) := chk_ok Tryz.underlying37 info61 rfl h
theorem mkM37 {n : Int} {l : List Ent} (h : gmk 192 (default : Ent) n = some l) : Ob.ok Tryz.prog (.mk (amakems Tryz.prog 37 (ai n) (ai n)) (flat entL l) l.length) := mk_ok Tryz.underlying37 info61 rfl rfl rfl (by decide) rfl (by decide) (by rfl) h
theorem slTo3_37 {l r : List Ent} {b : Int} {o : Own} (h : gsl l 0 b = some r) : aslice Tryz.prog 37 (.sl (flat entL l) l.length o) none (some (ai b)) (some (ai b)) = some (.sl (flat entL r) r.length .full) := sliceTo3_ok codecE Tryz.underlying37 info61 rfl h
theorem ixM52 {b n k : Nat} {i : Int} (h : gchk n i = some k) : aindexAddr Tryz.prog 52 (.ms b 0 n) (ai i) = some (.mp b (k * 1)) := chk_ok Tryz.underlying52 info3 rfl h
theorem mkM52 {n : Int} {l : List Int} (h : gmk 8 (default : Int) n = some l) : Ob.ok Tryz.prog (.mk (amakems Tryz.prog 52 (ai n) (ai n)) (flat intC l) l.length) := mk_ok Tryz.underlying52 info3 rfl rfl rfl (by decide) rfl (by decide) (by rfl) h
theorem slTo3_52 {l r : List Int} {b : Int} {o : Own} (h : gsl l 0 b = some r) : aslice Tryz.prog 52 (.sl (flat intC l) l.length o) none (some (ai b)) (some (ai b)) = some (.sl (flat intC r) r.length .full) := sliceTo3_ok codecI Tryz.underlying52 info3 rfl h
theorem ixM92 {b n k : Nat} {i : Int} (h : gchk n i = some k) : aindexAddr Tryz.prog 92 (.ms b 0 n) (ai i) = some (.mp b (k * 3)) := chk_ok Tryz.underlying92 info97 rfl h
theorem mkM92 {n : Int} {l : List Rec'} (h : gmk 56 (default : Rec') n = some l) : Ob.ok Tryz.prog (.mk (amakems Tryz.prog 92 (ai n) (ai n)) (flat recL l) l.length) := mk_ok Tryz.underlying92 info97 rfl rfl rfl (by decide) rfl (by decide) (by rfl) h
theorem slTo3_92 {l r : List Rec'} {b : Int} {o : Own} (h : gsl l 0 b = some r) : aslice Tryz.prog 92 (.sl (flat recL l) l.length o) none (some (ai b)) (some (ai b)) = some (.sl (flat recL r) r.length .full) := sliceTo3_ok codecR Tryz.underlying92 info97 rfl h
theorem ixM155 {b n k : Nat} {i : Int} (h : gchk n i = some k) : aindexAddr Tryz.prog 155 (.ms b 0 n) (ai i) = some (.mp b (k * 1)) := chk_ok Tryz.underlying155 info9 rfl h
theorem slTo3_155 {l r : List ByteArray} {b : Int} {o : Own} (h : gsl l 0 b = some r) : aslice Tryz.prog 155 (.sl (flat strC l) l.length o) none (some (ai b)) (some (ai b)) = some (.sl (flat strC r) r.length .full) := sliceTo3_ok codecS Tryz.underlying155 info9 rfl h
theorem ixM161 {b n k : Nat} {i : Int} (h : gchk n i = some k) : aindexAddr Tryz.prog 161 (.ms b 0 n) (ai i) = some (.mp b (k * 3)) := chk_ok Tryz.underlying161 info206 rfl h
theorem mkM161 {n : Int} {l : List Con'} (h : gmk 72 (default : Con') n = some l) : Ob.ok Tryz.prog (.mk (amakems Tryz.prog 161 (ai n) (ai n)) (flat conL l) l.length) := mk_ok Tryz.underlying161 info206 rfl rfl rfl (by decide) rfl (by decide) (by rfl) h
theorem slTo3_161 {l r : List Con'} {b : Int} {o : Own} (h : gsl l 0 b = some r) : aslice Tryz.prog 161 (.sl (flat conL l) l.length o) none (some (ai b)) (some (ai b)) = some (.sl (flat conL r) r.length .full) := sliceTo3_ok codecC Tryz.underlying161 info206 rfl h
theorem ixM204 {b n k : Nat} {i : Int} (h : gchk n i = some k) : aindexAddr Tryz.prog 204 (.ms b 0 n) (ai i) = some (.mp b (k * 3)) := chk_ok Tryz.underlying204 info209 rfl h
theorem mkM204 {n : Int} {l : List Rec'} (h : gmk 56 (default : Rec') n = some l) : Ob.ok Tryz.prog (.mk (amakems Tryz.prog 204 (ai n) (ai n)) (flat recL l) l.length) := mk_ok Tryz.underlying204 info209 rfl rfl rfl (by decide) rfl (by decide) (by rfl) h
theorem slTo3_204 {l r : List Rec'} {b : Int} {o : Own} (h : gsl l 0 b = some r) : aslice Tryz.prog 204 (.sl (flat recL l) l.length o) none (some (ai b)) (some (ai b)) = some (.sl (flat recL r) r.length .full) := sliceTo3_ok codecR Tryz.underlying204 info209 rfl h
theorem ixM282 {b n k : Nat} {i : Int} (h : gchk n i = some k) : aindexAddr Tryz.prog 282 (.ms b 0 n) (ai i) = some (.mp b (k * 1)) := chk_ok Tryz.underlying282 info5 rfl h
theorem mkM282 {n : Int} {l : List U8} (h : gmk 1 (default : U8) n = some l) : Ob.ok Tryz.prog (.mk (amakems Tryz.prog 282 (ai n) (ai n)) (flat u8C l) l.length) := mk_ok Tryz.underlying282 info5 rfl rfl rfl (by decide) rfl (by decide) (by rfl) h
theorem slTo3_282 {l r : List U8} {b : Int} {o : Own} (h : gsl l 0 b = some r) : aslice Tryz.prog 282 (.sl (flat u8C l) l.length o) none (some (ai b)) (some (ai b)) = some (.sl (flat u8C r) r.length .full) := sliceTo3_ok codecU Tryz.underlying282 info5 rfl h
theorem ixM266 {b n k : Nat} {i : Int} (h : gchk n i = some k) : aindexAddr Tryz.prog 266 (.ms b 0 n) (ai i) = some (.mp b (k * 4)) := chk_ok Tryz.underlying266 info234 rfl h
theorem mkM266 {n : Int} {l : List Got9} (h : gmk 48 (default : Got9) n = some l) : Ob.ok Tryz.prog (.mk (amakems Tryz.prog 266 (ai n) (ai n)) (flat got9L l) l.length) := mk_ok Tryz.underlying266 info234 rfl rfl rfl (by decide) rfl (by decide) (by rfl) h
theorem slTo3_266 {l r : List Got9} {b : Int} {o : Own} (h : gsl l 0 b = some r) : aslice Tryz.prog 266 (.sl (flat got9L l) l.length o) none (some (ai b)) (some (ai b)) = some (.sl (flat got9L r) r.length .full) := sliceTo3_ok codecG9 Tryz.underlying266 info234 rfl h

end Go.Proofs.YtkeipljdhcbfoaaGreat
