/- The hand-made contracts of the first level. -/
import Derived.Test.YtenikjnnpbgaoaaDoorH1a
import Derived.Test.YtenikjnnpbgaoaaDoorH1b
import Derived.Test.YtenikjnnpbgaoaaDoorH1c
