/-
  disk: cut; a drive's own fields.
-/
import Derived.Test.YtflodiljgphkdaaGreatDisk1
namespace Go.Proofs.YtflodiljgphkdaaGreat
open Go.RowKit Go.ChangeShapes Go.WideShapes Go.ChangeAt

end Go.Proofs.YtflodiljgphkdaaGreat
