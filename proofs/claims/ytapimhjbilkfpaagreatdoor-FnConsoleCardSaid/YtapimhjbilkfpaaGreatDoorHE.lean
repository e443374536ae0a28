/- The laid variables of the row are those that the console's numbers read. -/
import Derived.Lib.LaidTab
import Derived.Stop.LaidErr
import Derived.MakeChecks
import Derived.Test.YtapimhjbilkfpaaGreatDoorRows
import Derived.Test.YtapimhjbilkfpaaGreatDoorY01
import Derived.Test.YtapimhjbilkfpaaGreatDoorY10
namespace Go.Proofs.YtapimhjbilkfpaaGreatDoor
open Go.Proofs.Tryz
open Go Go.RowKit
set_option maxRecDepth 100000
theorem uH{P:Program}{W:World}{name:String}{g:Nat}(hg:P.globalNamed name=some g){cs:Array Value}(h:W.var? P name=some cs):reads W g=some (.cells false cs.toList cs.size):=by
 unfold World.var? at h;rw[hg]at h;simp only[Option.bind_some]at h;unfold reads;split at h
 .rename_i c e fr hh;injection h with h
  subst h;rw[hh]
 .cases h
theorem FX : "*" ++ "errors.errorString" = "*errors.errorString" := by decide
theorem Mz{W:World}(h:laidMetH prog Rows.fnConsoleRow.laid W):cj (reads W):=by
 rw[MakeChecks.laidMetH_plain _ _ _ (by kernel_rfl)]at h;have h:laidMet prog [("math/bits.deBruijn32tab",Rows.laid_math_bits_deBruijn32tab),("math/bits.deBruijn64tab",Rows.laid_math_bits_deBruijn64tab),("internal/strconv.uint64pow10",Rows.laid_internal_strconv_uint64pow10),("unicode/utf8.acceptRanges",Rows.laid_unicode_utf8_acceptRanges),("strconv.ErrRange",Rows.laid_strconv_ErrRange),("strconv.ErrSyntax",Rows.laid_strconv_ErrSyntax),("unicode/utf8.first",Rows.laid_unicode_utf8_first)] W:=h;have h2:=h.tail.tail;have h4:=h2.tail.tail;have h5:=h4.tail;have hp:Lib.TabIs prog W "internal/strconv.uint64pow10" .u64 Lib.pow10Tab:=Lib.tabIs_of_head (g:=5) (t:=288) (e:=96) (n:=20) (by kernel_rfl) (by kernel_rfl) underlying288 underlying96 (by kernel_rfl) (by kernel_rfl) h2;have row:∀ u,prog.typeName? 3 u=some "*errors.errorString" -> u=284:=fun u hu=>typeName_ptr_named (nm:= "errors.errorString") (by rw[FX];kernel_rfl) (by kernel_rfl) (by decide) u (by rw[FX];exact hu);obtain⟨a,s,ha,_⟩:=laid_sentinel (g:=2) (tp:=284) h4 (by kernel_rfl) (by kernel_rfl) underlying77 row underlying284 underlying286 rfl rfl underlying9 (by kernel_rfl) (by kernel_rfl);obtain⟨b,t,hb,_⟩:=laid_sentinel (g:=1) (tp:=284) h5 (by kernel_rfl) (by kernel_rfl) underlying77 row underlying284 underlying286 rfl rfl underlying9 (by kernel_rfl) (by kernel_rfl);have g5:prog.globalNamed "internal/strconv.uint64pow10" = some 5:=by kernel_rfl
 have g2:prog.globalNamed "strconv.ErrRange" = some 2:=by kernel_rfl
 have g1:prog.globalNamed "strconv.ErrSyntax" = some 1:=by kernel_rfl
 refine⟨⟨_,g5,?_⟩,⟨_,284,.pointer (some b),g1,uH g1 hb⟩,⟨_,284,.pointer (some a),g2,uH g2 ha⟩⟩;have:=uH g5 hp;simpa using this
end Go.Proofs.YtapimhjbilkfpaaGreatDoor
